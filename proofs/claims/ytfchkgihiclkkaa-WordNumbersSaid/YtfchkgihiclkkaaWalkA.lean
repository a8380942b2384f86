/-
  The walks of the packages word and pigeonholeref23, numbers alone: Make, tagged, Tag, Number, Head, Split, parts. Each contract says what the call hands back, and that the world stays.
-/
import Derived.Test.YtfchkgihiclkkaaRows
import Derived.Test.YtfchkgihiclkkaaPlain
import Derived.WalkKit
import Derived.WalkSpells
import Derived.WalkLawsBesides
import Derived.Lib.Hide
namespace Go.Proofs.Ytfchkgihiclkkaa
open Go.RowKit

theorem ret_wb {x y : Int} {b c : Bool} (h1 : x = y) (h2 : b = c) : Ending.returned (.tuple #[.int .u64 x, .bool b]) = Ending.returned (.tuple #[.int .u64 y, .bool c]) := by rw [h1, h2]
theorem ret_i {k : IntKind} {x y : Int} (h1 : x = y) : Ending.returned (.int k x) = Ending.returned (.int k y) := by rw [h1]
theorem ret_b {x y : Bool} (h1 : x = y) : Ending.returned (.bool x) = Ending.returned (.bool y) := by rw [h1]

theorem mk_val (x s t n : Int) (hx : x = n * 8 % 18446744073709551616) (hs : s = t) (h : okM t n = true) : bits .or .u64 x s = mkW t n := by
  have H := (okM_iff t n).1 h
  rw [mkW_yes h, hs, or8 x t (by omega) (by omega) (by omega) (by omega) (by omega), hx]

set_option maxHeartbeats 400000 in
theorem make_any (t n : Int) (w : World) :
    Calls Try.prog 31 #[.int .i64 t, .int .i64 n] w fun e w' => e = .returned (.tuple #[.int .u64 (mkW t n), .bool (okM t n)]) ∧ w = w' := by
  go_enter Try.func31, Try.ntmps31
  go_wp2
  all_goals go_ret2
  all_goals (refine ⟨ret_wb ?_ ?_, rfl⟩)
  all_goals (simp only [beq_iff_eq, beq_eq_false_iff_ne, ne_eq] at *)
  all_goals (first | (exact (okM_no _ _ (by omega)).symm) | (exact (mkW_no (okM_no _ _ (by omega))).symm) | (exact ((okM_iff _ _).2 (by omega)).symm) | (refine mk_val _ _ _ _ ?_ ?_ ((okM_iff _ _).2 (by omega)) <;> ((try simp only [IntKind.wrap_u64]) <;> omega)))
set_option maxHeartbeats 400000 in
theorem refMake_any (t n : Int) (w : World) :
    Calls Try.prog 32 #[.int .i64 t, .int .i64 n] w fun e w' => e = .returned (.tuple #[.int .u64 (mkW t n), .bool (okM t n)]) ∧ w = w' := by
  go_enter Try.func32, Try.ntmps32
  go_wp2
  all_goals go_ret2
  all_goals (refine ⟨ret_wb ?_ ?_, rfl⟩)
  all_goals (try simp only [beq_iff_eq, beq_eq_false_iff_ne, ne_eq] at *)
  all_goals (first | (exact (okM_no _ _ (by omega)).symm) | (exact (mkW_no (okM_no _ _ (by omega))).symm) | (exact ((okM_iff _ _).2 (by omega)).symm) | (exact ((mkW_yes ((okM_iff _ _).2 (by omega))).trans (by (try simp only [IntKind.wrap_u64]); omega)).symm))

theorem make_parts (x : Int) (h0 : 0 ≤ x) (h1 : x < 18446744073709551616) (h : tagB x = true) (w : World) :
    Calls Try.prog 31 #[.int .i64 (x % 8), .int .i64 (numP x)] w fun e w' => e = .returned (.tuple #[.int .u64 x, .bool true]) ∧ w = w' :=
  (make_any _ _ w).mono fun _ _ hq => ⟨by rw [hq.1, mk_parts h0 h1 h, show okM (x % 8) (numP x) = true from h], hq.2⟩
theorem make_parts_no (x : Int) (h : tagB x = false) (w : World) :
    Calls Try.prog 31 #[.int .i64 (x % 8), .int .i64 (numP x)] w fun e w' => e = .returned (.tuple #[.int .u64 0, .bool false]) ∧ w = w' :=
  (make_any _ _ w).mono fun _ _ hq => ⟨by rw [hq.1, mkW_no (t := x % 8) (n := numP x) h, show okM (x % 8) (numP x) = false from h], hq.2⟩
theorem sar3 (x : Int) (h0 : 0 ≤ x) (h1 : x < 18446744073709551616) : wrap64 x / 8 = numP x := by
  unfold wrap64
  by_cases h : x / 8 < 1152921504606846976
  · rw [numP_low h]; omega
  · rw [numP_high h]; omega
set_option maxHeartbeats 400000 in
theorem tagged_any (x : Int) (h0 : 0 ≤ x) (h1 : x < 18446744073709551616) (w : World) :
    Calls Try.prog 39 #[.int .u64 x] w fun e w' => e = .returned (.bool (tagB x)) ∧ w = w' := by
  have hb := and7 x h0 h1
  have hs := sar3 x h0 h1
  by_cases h : tagB x = true
  · go_enter Try.func39, Try.ntmps39
    go_wp2_with fail
    refine (make_parts x h0 h1 h _).mono ?_
    rintro e w' ⟨rfl, rfl⟩
    go_wp2_with fail
    go_ret
    exact ⟨ret_b h.symm, rfl⟩
  · have h' : tagB x = false := by simpa using h
    go_enter Try.func39, Try.ntmps39
    go_wp2_with fail
    refine (make_parts_no x h' _).mono ?_
    rintro e w' ⟨rfl, rfl⟩
    go_wp2_with fail
    go_ret
    exact ⟨ret_b h'.symm, rfl⟩
set_option maxHeartbeats 400000 in
theorem tag_any (x : Int) (h0 : 0 ≤ x) (h1 : x < 18446744073709551616) (w : World) :
    Calls Try.prog 33 #[.int .u64 x] w fun e w' => e = .returned (.int .i64 (tagI x)) ∧ w = w' := by
  have hb := and7 x h0 h1
  go_enter Try.func33, Try.ntmps33
  go_wp2_with fail
  refine (tagged_any x h0 h1 _).mono ?_
  rintro e w' ⟨rfl, rfl⟩
  by_cases h : tagB x = true
  · go_wp2_with fail
    go_ret
    exact ⟨ret_i (tagI_yes h).symm, rfl⟩
  · have h' : tagB x = false := by simpa using h
    go_wp2_with fail
    go_ret
    exact ⟨ret_i (tagI_no h').symm, rfl⟩
set_option maxHeartbeats 400000 in
theorem number_any (x : Int) (h0 : 0 ≤ x) (h1 : x < 18446744073709551616) (w : World) :
    Calls Try.prog 35 #[.int .u64 x] w fun e w' => e = .returned (.int .i64 (numI x)) ∧ w = w' := by
  have hs := sar3 x h0 h1
  go_enter Try.func35, Try.ntmps35
  go_wp2_with fail
  refine (tagged_any x h0 h1 _).mono ?_
  rintro e w' ⟨rfl, rfl⟩
  by_cases h : tagB x = true
  · go_wp2_with fail
    go_ret
    exact ⟨ret_i (numI_yes h).symm, rfl⟩
  · have h' : tagB x = false := by simpa using h
    go_wp2_with fail
    go_ret
    exact ⟨ret_i (numI_no h').symm, rfl⟩
theorem ret_ii {x y z u : Int} (h1 : x = y) (h2 : z = u) : Ending.returned (.tuple #[.int .i64 x, .int .i64 z]) = Ending.returned (.tuple #[.int .i64 y, .int .i64 u]) := by rw [h1, h2]
theorem ret_iib {x y z u : Int} {b c : Bool} (h1 : x = y) (h2 : z = u) (h3 : b = c) : Ending.returned (.tuple #[.int .i64 x, .int .i64 z, .bool b]) = Ending.returned (.tuple #[.int .i64 y, .int .i64 u, .bool c]) := by rw [h1, h2, h3]
set_option maxHeartbeats 400000 in
theorem parts_any (x : Int) (h0 : 0 ≤ x) (h1 : x < 18446744073709551616) (w : World) :
    Calls Try.prog 40 #[.int .u64 x] w fun e w' => e = .returned (.tuple #[.int .i64 (x % 8), .int .i64 (numP x)]) ∧ w = w' := by
  go_enter Try.func40, Try.ntmps40
  go_wp2
  all_goals go_ret2
  · exact ⟨ret_ii rfl (numP_high (by omega)).symm, rfl⟩
  · exact ⟨ret_ii rfl (numP_low (by omega)).symm, rfl⟩
theorem refMake_parts (x : Int) (h0 : 0 ≤ x) (h1 : x < 18446744073709551616) (h : tagB x = true) (w : World) :
    Calls Try.prog 32 #[.int .i64 (x % 8), .int .i64 (numP x)] w fun e w' => e = .returned (.tuple #[.int .u64 x, .bool true]) ∧ w = w' :=
  (refMake_any _ _ w).mono fun _ _ hq => ⟨by rw [hq.1, mk_parts h0 h1 h, show okM (x % 8) (numP x) = true from h], hq.2⟩
theorem refMake_parts_no (x : Int) (h : tagB x = false) (w : World) :
    Calls Try.prog 32 #[.int .i64 (x % 8), .int .i64 (numP x)] w fun e w' => e = .returned (.tuple #[.int .u64 0, .bool false]) ∧ w = w' :=
  (refMake_any _ _ w).mono fun _ _ hq => ⟨by rw [hq.1, mkW_no (t := x % 8) (n := numP x) h, show okM (x % 8) (numP x) = false from h], hq.2⟩
set_option maxHeartbeats 400000 in
theorem refTag_any (x : Int) (h0 : 0 ≤ x) (h1 : x < 18446744073709551616) (w : World) :
    Calls Try.prog 34 #[.int .u64 x] w fun e w' => e = .returned (.int .i64 (tagI x)) ∧ w = w' := by
  go_enter Try.func34, Try.ntmps34
  go_wp2_with fail
  refine (parts_any x h0 h1 _).mono ?_
  rintro e w' ⟨rfl, rfl⟩
  by_cases h : tagB x = true
  · go_wp2_with fail
    refine (refMake_parts x h0 h1 h _).mono ?_
    rintro e w' ⟨rfl, rfl⟩
    go_wp2_with fail
    go_ret
    exact ⟨ret_i (tagI_yes h).symm, rfl⟩
  · have h' : tagB x = false := by simpa using h
    go_wp2_with fail
    refine (refMake_parts_no x h' _).mono ?_
    rintro e w' ⟨rfl, rfl⟩
    go_wp2_with fail
    go_ret
    exact ⟨ret_i (tagI_no h').symm, rfl⟩
set_option maxHeartbeats 400000 in
theorem refNumber_any (x : Int) (h0 : 0 ≤ x) (h1 : x < 18446744073709551616) (w : World) :
    Calls Try.prog 36 #[.int .u64 x] w fun e w' => e = .returned (.int .i64 (numI x)) ∧ w = w' := by
  go_enter Try.func36, Try.ntmps36
  go_wp2_with fail
  refine (parts_any x h0 h1 _).mono ?_
  rintro e w' ⟨rfl, rfl⟩
  by_cases h : tagB x = true
  · go_wp2_with fail
    refine (refMake_parts x h0 h1 h _).mono ?_
    rintro e w' ⟨rfl, rfl⟩
    go_wp2_with fail
    go_ret
    exact ⟨ret_i (numI_yes h).symm, rfl⟩
  · have h' : tagB x = false := by simpa using h
    go_wp2_with fail
    refine (refMake_parts_no x h' _).mono ?_
    rintro e w' ⟨rfl, rfl⟩
    go_wp2_with fail
    go_ret
    exact ⟨ret_i (numI_no h').symm, rfl⟩

/-! ### heads -/
set_option maxHeartbeats 400000 in
theorem head_any (k s : Int) (w : World) :
    Calls Try.prog 21 #[.int .i64 k, .int .i64 s] w fun e w' => e = .returned (.tuple #[.int .u64 (headW k s), .bool (okH k s)]) ∧ w = w' := by
  by_cases h : 1 ≤ k ∧ k ≤ 3 ∧ 0 ≤ s ∧ s ≤ 1048576
  · have H := (okH_iff k s).2 h
    obtain ⟨ha, hb, hc, hd⟩ := h
    have ho : bits .or .u64 (s * 256) (k * 8) = headW k s := by rw [headW_yes H]; exact or256 _ _ (by omega) (by omega) (by omega) (by omega) (by omega)
    go_enter Try.func21, Try.ntmps21
    go_wp2
    go_ret2
    exact ⟨ret_wb rfl H.symm, rfl⟩
  · have HH := Lib.hid h
    clear h
    go_enter Try.func21, Try.ntmps21
    go_wp2
    all_goals go_ret2
    all_goals have h := HH.out
    all_goals first | (exact ⟨ret_wb (headW_no (okH_no k s h)).symm (okH_no k s h).symm, rfl⟩) | (exfalso; omega)
set_option maxHeartbeats 400000 in
theorem refHead_any (k s : Int) (w : World) :
    Calls Try.prog 22 #[.int .i64 k, .int .i64 s] w fun e w' => e = .returned (.tuple #[.int .u64 (headW k s), .bool (okH k s)]) ∧ w = w' := by
  by_cases h : 1 ≤ k ∧ k ≤ 3 ∧ 0 ≤ s ∧ s ≤ 1048576
  · have H := (okH_iff k s).2 h
    have ho := headW_yes H
    obtain ⟨ha, hb, hc, hd⟩ := h
    go_enter Try.func22, Try.ntmps22
    go_wp2
    go_ret2
    exact ⟨ret_wb ho.symm H.symm, rfl⟩
  · have HH := Lib.hid h
    clear h
    go_enter Try.func22, Try.ntmps22
    go_wp2
    all_goals go_ret2
    all_goals have h := HH.out
    all_goals first | (exact ⟨ret_wb (headW_no (okH_no k s h)).symm (okH_no k s h).symm, rfl⟩) | (exfalso; omega)
theorem head_parts' (x : Int) (h0 : 0 ≤ x) (h : headB x = true) (w : World) :
    Calls Try.prog 21 #[.int .i64 (x / 8 % 32), .int .i64 (x / 256)] w fun e w' => e = .returned (.tuple #[.int .u64 x, .bool true]) ∧ w = w' :=
  (head_any _ _ w).mono fun _ _ hq => ⟨by have e := head_parts h0 h; rw [kindI_yes h, sizeI_yes h] at e; rw [hq.1, e.1, e.2], hq.2⟩
theorem refHead_parts' (x : Int) (h0 : 0 ≤ x) (h : headB x = true) (w : World) :
    Calls Try.prog 22 #[.int .i64 (x / 8 % 32), .int .i64 (x / 256)] w fun e w' => e = .returned (.tuple #[.int .u64 x, .bool true]) ∧ w = w' :=
  (refHead_any _ _ w).mono fun _ _ hq => ⟨by have e := head_parts h0 h; rw [kindI_yes h, sizeI_yes h] at e; rw [hq.1, e.1, e.2], hq.2⟩
/-- What is no head is made by no call of Head at its parts. -/
def NoHead (x : Int) (e : Ending) : Prop := ∃ y b, e = .returned (.tuple #[.int .u64 y, .bool b]) ∧ (b = false ∨ b = true ∧ (y == x) = false)
theorem noHead_of (x k s : Int) (h : okH k s = true → headW k s ≠ x) : NoHead x (.returned (.tuple #[.int .u64 (headW k s), .bool (okH k s)])) := by
  refine ⟨_, _, rfl, ?_⟩
  by_cases hk : okH k s = true
  · exact .inr ⟨hk, beq_eq_false_iff_ne.2 (h hk)⟩
  · exact .inl (by simpa using hk)
theorem parts_ne (x k s : Int) (_h0 : 0 ≤ x) (h : headB x = false) (hk : k = x / 8 % 32) (_hs : s = x / 256 ∨ 1048576 < x / 256 ∧ s = 0) : okH k s = true → headW k s ≠ x := by
  intro h1 h2
  have H := (okH_iff k s).1 h1
  rw [headW_yes h1] at h2
  have : headB x = true := (headB_iff x).2 (by omega)
  rw [h] at this; cases this
theorem head_no' (x k s : Int) (h0 : 0 ≤ x) (h : headB x = false) (hk : k = x / 8 % 32) (hs : s = x / 256 ∨ 1048576 < x / 256 ∧ s = 0) (w : World) :
    Calls Try.prog 21 #[.int .i64 k, .int .i64 s] w fun e w' => NoHead x e ∧ w = w' :=
  (head_any _ _ w).mono fun _ _ hq => ⟨by rw [hq.1]; exact noHead_of x k s (parts_ne x k s h0 h hk hs), hq.2⟩
theorem refHead_no' (x k s : Int) (h0 : 0 ≤ x) (h : headB x = false) (hk : k = x / 8 % 32) (hs : s = x / 256 ∨ 1048576 < x / 256 ∧ s = 0) (w : World) :
    Calls Try.prog 22 #[.int .i64 k, .int .i64 s] w fun e w' => NoHead x e ∧ w = w' :=
  (refHead_any _ _ w).mono fun _ _ hq => ⟨by rw [hq.1]; exact noHead_of x k s (parts_ne x k s h0 h hk hs), hq.2⟩
set_option maxHeartbeats 400000 in
theorem split_yes (x : Int) (h0 : 0 ≤ x) (h1 : x < 18446744073709551616) (h : headB x = true) (w : World) :
    Calls Try.prog 23 #[.int .u64 x] w fun e w' => e = .returned (.tuple #[.int .i64 (kindI x), .int .i64 (sizeI x), .bool true]) ∧ w = w' := by
  have hb := and31 (x / 8) (by omega) (by omega)
  have H : x / 256 ≤ 1048576 := ((headB_iff x).1 h).2.2.2
  go_enter Try.func23, Try.ntmps23
  go_wp2_with fail
  refine (head_parts' x h0 h _).mono ?_
  rintro e w' ⟨rfl, rfl⟩
  go_wp2_with fail
  go_ret3
  exact ⟨ret_iib (kindI_yes h).symm (sizeI_yes h).symm rfl, rfl⟩
set_option maxHeartbeats 400000 in
theorem split_no (x : Int) (h0 : 0 ≤ x) (h1 : x < 18446744073709551616) (h : headB x = false) (w : World) :
    Calls Try.prog 23 #[.int .u64 x] w fun e w' => e = .returned (.tuple #[.int .i64 (kindI x), .int .i64 (sizeI x), .bool false]) ∧ w = w' := by
  have hb := and31 (x / 8) (by omega) (by omega)
  rw [kindI_no h, sizeI_no h]
  by_cases H : x / 256 ≤ 1048576
  · go_enter Try.func23, Try.ntmps23
    go_wp2_with fail
    refine (head_no' x _ _ h0 h rfl (by omega) _).mono ?_
    rintro e w' ⟨⟨y, b, rfl, hy⟩, rfl⟩
    rcases hy with rfl | ⟨rfl, hy⟩
    · go_wp2_with fail
      go_ret3
      exact ⟨rfl, rfl⟩
    · go_wp2_with fail
      go_ret3
      exact ⟨rfl, rfl⟩
  · go_enter Try.func23, Try.ntmps23
    go_wp2_with fail
    refine (head_no' x _ _ h0 h rfl (by omega) _).mono ?_
    rintro e w' ⟨⟨y, b, rfl, hy⟩, rfl⟩
    rcases hy with rfl | ⟨rfl, hy⟩
    · go_wp2_with fail
      go_ret3
      exact ⟨rfl, rfl⟩
    · go_wp2_with fail
      go_ret3
      exact ⟨rfl, rfl⟩
set_option maxHeartbeats 400000 in
theorem refSplit_yes (x : Int) (h0 : 0 ≤ x) (h1 : x < 18446744073709551616) (h : headB x = true) (w : World) :
    Calls Try.prog 24 #[.int .u64 x] w fun e w' => e = .returned (.tuple #[.int .i64 (kindI x), .int .i64 (sizeI x), .bool true]) ∧ w = w' := by
  have H : x / 256 ≤ 1048576 := ((headB_iff x).1 h).2.2.2
  have e32 : x % 256 / 8 = x / 8 % 32 := by omega
  go_enter Try.func24, Try.ntmps24
  go_wp2_with fail
  refine (refHead_parts' x h0 h _).mono ?_
  rintro e w' ⟨rfl, rfl⟩
  go_wp2_with fail
  go_ret3
  exact ⟨ret_iib (kindI_yes h).symm (sizeI_yes h).symm rfl, rfl⟩
set_option maxHeartbeats 400000 in
theorem refSplit_no (x : Int) (h0 : 0 ≤ x) (h1 : x < 18446744073709551616) (h : headB x = false) (w : World) :
    Calls Try.prog 24 #[.int .u64 x] w fun e w' => e = .returned (.tuple #[.int .i64 (kindI x), .int .i64 (sizeI x), .bool false]) ∧ w = w' := by
  have e32 : x % 256 / 8 = x / 8 % 32 := by omega
  rw [kindI_no h, sizeI_no h]
  by_cases H : x < 268435712
  · go_enter Try.func24, Try.ntmps24
    go_wp2_with fail
    refine (refHead_no' x _ _ h0 h rfl (by omega) _).mono ?_
    rintro e w' ⟨⟨y, b, rfl, hy⟩, rfl⟩
    rcases hy with rfl | ⟨rfl, hy⟩
    · go_wp2_with fail
      go_ret3
      exact ⟨rfl, rfl⟩
    · go_wp2_with fail
      go_ret3
      exact ⟨rfl, rfl⟩
  · go_enter Try.func24, Try.ntmps24
    go_wp2_with fail
    go_ret3
    exact ⟨rfl, rfl⟩
theorem split_any (x : Int) (h0 : 0 ≤ x) (h1 : x < 18446744073709551616) (w : World) :
    Calls Try.prog 23 #[.int .u64 x] w fun e w' => e = .returned (.tuple #[.int .i64 (kindI x), .int .i64 (sizeI x), .bool (headB x)]) ∧ w = w' := by
  by_cases h : headB x = true
  · rw [h]; exact split_yes x h0 h1 h w
  · rw [show headB x = false by simpa using h]; exact split_no x h0 h1 (by simpa using h) w
theorem refSplit_any (x : Int) (h0 : 0 ≤ x) (h1 : x < 18446744073709551616) (w : World) :
    Calls Try.prog 24 #[.int .u64 x] w fun e w' => e = .returned (.tuple #[.int .i64 (kindI x), .int .i64 (sizeI x), .bool (headB x)]) ∧ w = w' := by
  by_cases h : headB x = true
  · rw [h]; exact refSplit_yes x h0 h1 h w
  · rw [show headB x = false by simpa using h]; exact refSplit_no x h0 h1 (by simpa using h) w
end Go.Proofs.Ytfchkgihiclkkaa
