/-
  The walks of WordBack and WordNil: true at every input.
-/
import Derived.Test.YtfchkgihiclkkaaLawTags
namespace Go.Proofs.Ytfchkgihiclkkaa
open Go.RowKit Go.Maps

theorem make_yes (t n : Int) (h : okM t n = true) (w : World) : Calls Try.prog 31 #[.int .i64 t, .int .i64 n] w fun e w' => e = .returned (.tuple #[.int .u64 (mkW t n), .bool true]) ∧ w = w' :=
  (make_any t n w).mono fun _ _ hq => ⟨by rw [hq.1, h], hq.2⟩
theorem make_no (t n : Int) (h : okM t n = false) (w : World) : Calls Try.prog 31 #[.int .i64 t, .int .i64 n] w fun e w' => e = .returned (.tuple #[.int .u64 0, .bool false]) ∧ w = w' :=
  (make_any t n w).mono fun _ _ hq => ⟨by rw [hq.1, h, mkW_no h], hq.2⟩
theorem tag_mk (t n : Int) (h : okM t n = true) (w : World) : Calls Try.prog 33 #[.int .u64 (mkW t n)] w fun e w' => e = .returned (.int .i64 t) ∧ w = w' :=
  (tag_any _ (mkW_range t n).1 (mkW_range t n).2 w).mono fun _ _ hq => ⟨by rw [hq.1, tagI_mk h], hq.2⟩
theorem number_mk (t n : Int) (h : okM t n = true) (w : World) : Calls Try.prog 35 #[.int .u64 (mkW t n)] w fun e w' => e = .returned (.int .i64 n) ∧ w = w' :=
  (number_any _ (mkW_range t n).1 (mkW_range t n).2 w).mono fun _ _ hq => ⟨by rw [hq.1, numI_mk h], hq.2⟩
/-- The second half of WordBack's walk, from the call of Split on, stands for both ways of the first: so the first is a predicate of the law's own. -/
theorem tagB_tag {x : Int} (h : tagB x = true) : 1 ≤ x % 8 ∧ x % 8 ≤ 7 := by
  have H := (okM_iff _ _).1 h; omega
theorem tag_yes (x : Int) (h0 : 0 ≤ x) (h1 : x < 18446744073709551616) (h : tagB x = true) (w : World) : Calls Try.prog 33 #[.int .u64 x] w fun e w' => e = .returned (.int .i64 (x % 8)) ∧ w = w' :=
  (tag_any x h0 h1 w).mono fun _ _ hq => ⟨by rw [hq.1, tagI_yes h], hq.2⟩
theorem tag_no (x : Int) (h0 : 0 ≤ x) (h1 : x < 18446744073709551616) (h : tagB x = false) (w : World) : Calls Try.prog 33 #[.int .u64 x] w fun e w' => e = .returned (.int .i64 0) ∧ w = w' :=
  (tag_any x h0 h1 w).mono fun _ _ hq => ⟨by rw [hq.1, tagI_no h], hq.2⟩
theorem number_yes (x : Int) (h0 : 0 ≤ x) (h1 : x < 18446744073709551616) (h : tagB x = true) (w : World) : Calls Try.prog 35 #[.int .u64 x] w fun e w' => e = .returned (.int .i64 (numP x)) ∧ w = w' :=
  (number_any x h0 h1 w).mono fun _ _ hq => ⟨by rw [hq.1, numI_yes h], hq.2⟩
theorem number_no (x : Int) (h0 : 0 ≤ x) (h1 : x < 18446744073709551616) (h : tagB x = false) (w : World) : Calls Try.prog 35 #[.int .u64 x] w fun e w' => e = .returned (.int .i64 0) ∧ w = w' :=
  (number_any x h0 h1 w).mono fun _ _ hq => ⟨by rw [hq.1, numI_no h], hq.2⟩
theorem split_tag (x : Int) (h0 : 0 ≤ x) (h1 : x < 18446744073709551616) (h : headB x = false) (w : World) : Calls Try.prog 23 #[.int .u64 x] w fun e w' => e = .returned (.tuple #[.int .i64 0, .int .i64 0, .bool false]) ∧ w = w' :=
  (split_any x h0 h1 w).mono fun _ _ hq => ⟨by rw [hq.1, kindI_no h, sizeI_no h, h], hq.2⟩
theorem split_head (x : Int) (h0 : 0 ≤ x) (h1 : x < 18446744073709551616) (h : headB x = true) (w : World) : Calls Try.prog 23 #[.int .u64 x] w fun e w' => e = .returned (.tuple #[.int .i64 (x / 8 % 32), .int .i64 (x / 256), .bool true]) ∧ w = w' :=
  (split_any x h0 h1 w).mono fun _ _ hq => ⟨by rw [hq.1, kindI_yes h, sizeI_yes h, h], hq.2⟩

set_option maxHeartbeats 400000 in
theorem back_yes_tag (t n x : Int) (h0 : 0 ≤ x) (h1 : x < 18446744073709551616) (hm : okM t n = true) (hx : tagB x = true) (w : World) :
    Calls Try.prog 11 #[.int .i64 t, .int .i64 n, .int .u64 x] w fun e w' => e = .returned (.bool true) ∧ Below w.heap.size w w' := by
  obtain ⟨b1, b2⟩ := tagB_tag hx
  go_enter Try.func11, Try.ntmps11
  go_wp2_with fail
  refine (awake_any _).mono ?_
  rintro e wa ⟨rfl, hb⟩
  go_wp2_with fail
  refine (make_yes t n hm _).mono ?_
  rintro e w' ⟨rfl, rfl⟩
  go_wp2_with fail
  refine (tag_mk t n hm _).mono ?_
  rintro e w' ⟨rfl, rfl⟩
  go_wp2_with fail
  refine (number_mk t n hm _).mono ?_
  rintro e w' ⟨rfl, rfl⟩
  go_wp2_with fail
  refine (split_tag x h0 h1 (not_both hx) _).mono ?_
  rintro e w' ⟨rfl, rfl⟩
  go_wp2_with fail
  refine (tag_yes x h0 h1 hx _).mono ?_
  rintro e w' ⟨rfl, rfl⟩
  go_wp2_with fail
  refine (number_yes x h0 h1 hx _).mono ?_
  rintro e w' ⟨rfl, rfl⟩
  go_wp2_with fail
  refine (make_parts x h0 h1 hx _).mono ?_
  rintro e w' ⟨rfl, rfl⟩
  go_wp2_with fail
  go_ret
  exact ⟨rfl, hb⟩
set_option maxHeartbeats 400000 in
theorem back_yes_head (t n x : Int) (h0 : 0 ≤ x) (h1 : x < 18446744073709551616) (hm : okM t n = true) (hx : tagB x = false) (hh : headB x = true) (w : World) :
    Calls Try.prog 11 #[.int .i64 t, .int .i64 n, .int .u64 x] w fun e w' => e = .returned (.bool true) ∧ Below w.heap.size w w' := by
  go_enter Try.func11, Try.ntmps11
  go_wp2_with fail
  refine (awake_any _).mono ?_
  rintro e wa ⟨rfl, hb⟩
  go_wp2_with fail
  refine (make_yes t n hm _).mono ?_
  rintro e w' ⟨rfl, rfl⟩
  go_wp2_with fail
  refine (tag_mk t n hm _).mono ?_
  rintro e w' ⟨rfl, rfl⟩
  go_wp2_with fail
  refine (number_mk t n hm _).mono ?_
  rintro e w' ⟨rfl, rfl⟩
  go_wp2_with fail
  refine (split_head x h0 h1 hh _).mono ?_
  rintro e w' ⟨rfl, rfl⟩
  go_wp2_with fail
  refine (tag_no x h0 h1 hx _).mono ?_
  rintro e w' ⟨rfl, rfl⟩
  go_wp2_with fail
  refine (number_no x h0 h1 hx _).mono ?_
  rintro e w' ⟨rfl, rfl⟩
  go_wp2_with fail
  refine (head_parts' x h0 hh _).mono ?_
  rintro e w' ⟨rfl, rfl⟩
  go_wp2_with fail
  go_ret
  exact ⟨rfl, hb⟩
set_option maxHeartbeats 400000 in
theorem back_yes_none (t n x : Int) (h0 : 0 ≤ x) (h1 : x < 18446744073709551616) (hm : okM t n = true) (hx : tagB x = false) (hh : headB x = false) (w : World) :
    Calls Try.prog 11 #[.int .i64 t, .int .i64 n, .int .u64 x] w fun e w' => e = .returned (.bool true) ∧ Below w.heap.size w w' := by
  go_enter Try.func11, Try.ntmps11
  go_wp2_with fail
  refine (awake_any _).mono ?_
  rintro e wa ⟨rfl, hb⟩
  go_wp2_with fail
  refine (make_yes t n hm _).mono ?_
  rintro e w' ⟨rfl, rfl⟩
  go_wp2_with fail
  refine (tag_mk t n hm _).mono ?_
  rintro e w' ⟨rfl, rfl⟩
  go_wp2_with fail
  refine (number_mk t n hm _).mono ?_
  rintro e w' ⟨rfl, rfl⟩
  go_wp2_with fail
  refine (split_tag x h0 h1 hh _).mono ?_
  rintro e w' ⟨rfl, rfl⟩
  go_wp2_with fail
  refine (tag_no x h0 h1 hx _).mono ?_
  rintro e w' ⟨rfl, rfl⟩
  go_wp2_with fail
  refine (number_no x h0 h1 hx _).mono ?_
  rintro e w' ⟨rfl, rfl⟩
  go_wp2_with fail
  go_ret
  exact ⟨rfl, hb⟩
set_option maxHeartbeats 400000 in
theorem back_no_tag (t n x : Int) (h0 : 0 ≤ x) (h1 : x < 18446744073709551616) (hm : okM t n = false) (hx : tagB x = true) (w : World) :
    Calls Try.prog 11 #[.int .i64 t, .int .i64 n, .int .u64 x] w fun e w' => e = .returned (.bool true) ∧ Below w.heap.size w w' := by
  obtain ⟨b1, b2⟩ := tagB_tag hx
  go_enter Try.func11, Try.ntmps11
  go_wp2_with fail
  refine (awake_any _).mono ?_
  rintro e wa ⟨rfl, hb⟩
  go_wp2_with fail
  refine (make_no t n hm _).mono ?_
  rintro e w' ⟨rfl, rfl⟩
  go_wp2_with fail
  refine (split_tag x h0 h1 (not_both hx) _).mono ?_
  rintro e w' ⟨rfl, rfl⟩
  go_wp2_with fail
  refine (tag_yes x h0 h1 hx _).mono ?_
  rintro e w' ⟨rfl, rfl⟩
  go_wp2_with fail
  refine (number_yes x h0 h1 hx _).mono ?_
  rintro e w' ⟨rfl, rfl⟩
  go_wp2_with fail
  refine (make_parts x h0 h1 hx _).mono ?_
  rintro e w' ⟨rfl, rfl⟩
  go_wp2_with fail
  go_ret
  exact ⟨rfl, hb⟩
set_option maxHeartbeats 400000 in
theorem back_no_head (t n x : Int) (h0 : 0 ≤ x) (h1 : x < 18446744073709551616) (hm : okM t n = false) (hx : tagB x = false) (hh : headB x = true) (w : World) :
    Calls Try.prog 11 #[.int .i64 t, .int .i64 n, .int .u64 x] w fun e w' => e = .returned (.bool true) ∧ Below w.heap.size w w' := by
  go_enter Try.func11, Try.ntmps11
  go_wp2_with fail
  refine (awake_any _).mono ?_
  rintro e wa ⟨rfl, hb⟩
  go_wp2_with fail
  refine (make_no t n hm _).mono ?_
  rintro e w' ⟨rfl, rfl⟩
  go_wp2_with fail
  refine (split_head x h0 h1 hh _).mono ?_
  rintro e w' ⟨rfl, rfl⟩
  go_wp2_with fail
  refine (tag_no x h0 h1 hx _).mono ?_
  rintro e w' ⟨rfl, rfl⟩
  go_wp2_with fail
  refine (number_no x h0 h1 hx _).mono ?_
  rintro e w' ⟨rfl, rfl⟩
  go_wp2_with fail
  refine (head_parts' x h0 hh _).mono ?_
  rintro e w' ⟨rfl, rfl⟩
  go_wp2_with fail
  go_ret
  exact ⟨rfl, hb⟩
set_option maxHeartbeats 400000 in
theorem back_no_none (t n x : Int) (h0 : 0 ≤ x) (h1 : x < 18446744073709551616) (hm : okM t n = false) (hx : tagB x = false) (hh : headB x = false) (w : World) :
    Calls Try.prog 11 #[.int .i64 t, .int .i64 n, .int .u64 x] w fun e w' => e = .returned (.bool true) ∧ Below w.heap.size w w' := by
  go_enter Try.func11, Try.ntmps11
  go_wp2_with fail
  refine (awake_any _).mono ?_
  rintro e wa ⟨rfl, hb⟩
  go_wp2_with fail
  refine (make_no t n hm _).mono ?_
  rintro e w' ⟨rfl, rfl⟩
  go_wp2_with fail
  refine (split_tag x h0 h1 hh _).mono ?_
  rintro e w' ⟨rfl, rfl⟩
  go_wp2_with fail
  refine (tag_no x h0 h1 hx _).mono ?_
  rintro e w' ⟨rfl, rfl⟩
  go_wp2_with fail
  refine (number_no x h0 h1 hx _).mono ?_
  rintro e w' ⟨rfl, rfl⟩
  go_wp2_with fail
  go_ret
  exact ⟨rfl, hb⟩
theorem back_any (t n x : Int) (_w0 : (Lit.int .i64 t).wf = true) (_w1 : (Lit.int .i64 n).wf = true) (w2 : (Lit.int .u64 x).wf = true) (w : World) :
    Calls Try.prog 11 #[.int .i64 t, .int .i64 n, .int .u64 x] w fun e w' => e = .returned (.bool true) ∧ Below w.heap.size w w' := by
  obtain ⟨h0, h1⟩ := u64_bd w2
  cases hm : okM t n <;> cases hx : tagB x <;> cases hh : headB x
  · exact back_no_none t n x h0 h1 hm hx hh w
  · exact back_no_head t n x h0 h1 hm hx hh w
  · exact back_no_tag t n x h0 h1 hm hx w
  · exact back_no_tag t n x h0 h1 hm hx w
  · exact back_yes_none t n x h0 h1 hm hx hh w
  · exact back_yes_head t n x h0 h1 hm hx hh w
  · exact back_yes_tag t n x h0 h1 hm hx w
  · exact back_yes_tag t n x h0 h1 hm hx w

/-! ### the nil object, the empty one -/
set_option maxHeartbeats 400000 in
theorem text_nil (n : Int) (w : World) : Calls Try.prog 29 #[.pointer none, .int .i64 n] w fun e w' => e = .returned (.tuple #[.string ⟨#[]⟩, .bool false]) ∧ w = w' := by
  go_enter Try.func29, Try.ntmps29
  go_wp2
  go_ret2
  exact ⟨rfl, rfl⟩
set_option maxHeartbeats 400000 in
theorem num_nil (s : ByteArray) (w : World) : Calls Try.prog 27 #[.pointer none, .string s] w fun e w' => e = .returned (.int .i64 (-1)) ∧ w = w' := by
  go_enter Try.func27, Try.ntmps27
  go_wp2
  go_ret
  exact ⟨rfl, rfl⟩
set_option maxHeartbeats 400000 in
theorem text_empty (b : Nat) (n : Int) (w : World) (c1 : w.cell? ⟨b, 1, none⟩ = some (.slice none 0 0)) :
    Calls Try.prog 29 #[.pointer (some ⟨b, 0, none⟩), .int .i64 n] w fun e w' => e = .returned (.tuple #[.string ⟨#[]⟩, .bool false]) ∧ w = w' := by
  by_cases h : n < 0
  · go_enter Try.func29, Try.ntmps29
    go_wp2
    go_ret2
    exact ⟨rfl, rfl⟩
  · go_enter Try.func29, Try.ntmps29
    go_wp2
    go_ret2
    exact ⟨rfl, rfl⟩
set_option maxHeartbeats 400000 in
theorem num_empty (b : Nat) (s : ByteArray) (w : World) (c0 : w.cell? ⟨b, 0, none⟩ = some (.map none)) :
    Calls Try.prog 27 #[.pointer (some ⟨b, 0, none⟩), .string s] w fun e w' => e = .returned (.int .i64 (-1)) ∧ w = w' := by
  have q52 : ∀ (w : World) (r : Option Nat), (binOp .eql 52 (.map r) (.map none)).run Try.prog w = .ok (.bool r.isNone) w := fun w r => run_eql_map_nil w _ _ _ r Try.underlying52
  go_enter Try.func27, Try.ntmps27
  go_wp2
  go_ret
  exact ⟨rfl, rfl⟩
set_option maxHeartbeats 800000 in
theorem nil_any (s : ByteArray) (n : Int) (w : World) :
    Calls Try.prog 8 #[.string s, .int .i64 n] w fun e w' => e = .returned (.bool true) ∧ Below w.heap.size w w' := by
  go_enter Try.func8, Try.ntmps8
  go_wp2_with fail
  refine (awake_any _).mono ?_
  rintro e wa ⟨rfl, hb⟩
  go_wp2_with fail
  refine wp_loop_rounds 3 ?_
  rw [rounds_succ]
  go_wp2_with fail
  refine (text_nil n _).mono ?_
  rintro e w' ⟨rfl, rfl⟩
  go_wp2_with fail
  refine (num_nil s _).mono ?_
  rintro e w' ⟨rfl, rfl⟩
  go_wp2_with fail
  rw [rounds_succ]
  go_wp2_with fail
  refine (text_empty wa.heap.size n _ ?c1).mono ?_
  case c1 => simp
  rintro e w' ⟨rfl, rfl⟩
  go_wp2_with fail
  refine (num_empty wa.heap.size s _ ?c2).mono ?_
  case c2 => simp
  rintro e w' ⟨rfl, rfl⟩
  go_wp2_with fail
  rw [rounds_succ]
  go_wp2_with fail
  go_ret
  exact ⟨rfl, (hb.alloc hb.size _).alloc (by have := hb.size; simp; omega) _⟩
end Go.Proofs.Ytfchkgihiclkkaa
