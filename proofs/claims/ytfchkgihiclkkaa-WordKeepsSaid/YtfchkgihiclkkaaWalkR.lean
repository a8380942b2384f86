/-
  The walks of the packages room and pigeonholeref26 but for Grown: Right, Shrunk; of pigeonholekit.Pick.
-/
import Derived.Test.YtfchkgihiclkkaaRows
import Derived.Test.YtfchkgihiclkkaaRoomPlain
import Derived.WalkKit
import Derived.WalkSpells
import Derived.WalkLawsBesides
import Derived.Lib.Hide
namespace Go.Proofs.Ytfchkgihiclkkaa
open Go.RowKit

theorem ret_bl {x y : Bool} (h1 : x = y) : Ending.returned (.bool x) = Ending.returned (.bool y) := by rw [h1]
theorem ret_int {k : IntKind} {x y : Int} (h1 : x = y) : Ending.returned (.int k x) = Ending.returned (.int k y) := by rw [h1]
set_option maxHeartbeats 400000 in
theorem right_any (l m : Int) (w : World) :
    Calls Try.prog 15 #[.agg #[.int .i64 l, .int .i64 m]] w fun e w' => e = .returned (.bool (okP l m)) ∧ w' = w.alloc (.cells #[.int .i64 l, .int .i64 m] 23) := by
  go_enter Try.func15, Try.ntmps15
  go_wp2
  all_goals go_ret
  all_goals (refine ⟨ret_bl ?_, rfl⟩)
  · show decide (m ≤ 16384) = okP l m
    unfold okP; exact decide_eq_decide.2 (by omega)
  · exact (okP_no l m (by omega)).symm
  · exact (okP_no l m (by omega)).symm
set_option maxHeartbeats 400000 in
theorem refRight_any (l m : Int) (w : World) :
    Calls Try.prog 16 #[.agg #[.int .i64 l, .int .i64 m]] w fun e w' => e = .returned (.bool (okP l m)) ∧ w' = w.alloc (.cells #[.int .i64 l, .int .i64 m] 24) := by
  go_enter Try.func16, Try.ntmps16
  go_wp2
  all_goals go_ret
  all_goals (refine ⟨ret_bl ?_, rfl⟩)
  · show decide (m ≤ 16384) = okP l m
    unfold okP; exact decide_eq_decide.2 (by omega)
  · exact (okP_no l m (by omega)).symm
  · exact (okP_no l m (by omega)).symm

/-! ### Pick -/
theorem tmod_add (x n : Int) : ∃ q, x = n * q + x.tmod n := ⟨x.tdiv n, (Int.mul_tdiv_add_tmod x n).symm⟩
theorem tmod_bd (x n : Int) (hn : 1 ≤ n) : -n < x.tmod n ∧ x.tmod n < n := by
  have h1 := Int.tmod_lt_of_pos x (show 0 < n by omega)
  have h2 : -n < x.tmod n := by
    by_cases hx : 0 ≤ x
    · have := Int.tmod_nonneg n hx; omega
    · have h3 := Int.tmod_lt_of_pos (-x) (show 0 < n by omega)
      rw [Int.neg_tmod] at h3
      omega
  exact ⟨h2, h1⟩
theorem emod_tmod (x n : Int) (hn : 1 ≤ n) : x % n = if x.tmod n < 0 then x.tmod n + n else x.tmod n := by
  obtain ⟨q, hq⟩ := tmod_add x n
  obtain ⟨b1, b2⟩ := tmod_bd x n hn
  generalize x.tmod n = r at *
  subst hq
  split
  · rw [show n * q + r = (r + n) + n * (q - 1) by rw [Int.mul_sub]; omega, Int.add_mul_emod_self_left]
    exact Int.emod_eq_of_lt (by omega) (by omega)
  · rw [show n * q + r = r + n * q by omega, Int.add_mul_emod_self_left]
    exact Int.emod_eq_of_lt (by omega) (by omega)
set_option maxHeartbeats 400000 in
theorem pick_any (x n : Int) (hn : 1 ≤ n) (hn2 : n ≤ 1000000) (w : World) :
    Calls Try.prog 20 #[.int .i64 x, .int .i64 n] w fun e w' => e = .returned (.int .i64 (x % n)) ∧ w = w' := by
  obtain ⟨b1, b2⟩ := tmod_bd x n hn
  have HE := Lib.hid (emod_tmod x n hn)
  go_enter Try.func20, Try.ntmps20
  go_wp2
  all_goals go_ret
  · exact ⟨ret_int (by rw [HE.out, if_pos ‹_›]), rfl⟩
  · exact ⟨ret_int (by rw [HE.out, if_neg (by omega)]), rfl⟩

/-! ### Shrunk -/
set_option maxHeartbeats 400000 in
theorem shrunk_not (l m h v : Int) (hp : okP l m = false) (w : World) :
    Calls Try.prog 17 #[.agg #[.int .i64 l, .int .i64 m], .int .i64 h, .int .i64 v] w fun e w' => e = .returned (.int .i64 h) ∧ Below w.heap.size w w' := by
  go_enter Try.func17, Try.ntmps17
  go_wp2_with (go_at_call 15; refine (right_any _ _ _).mono ?_; rintro e w' ⟨rfl, rfl⟩)
  go_ret
  exact ⟨rfl, ((Below.refl _ _).alloc (Nat.le_refl _) _).alloc (by simp) _⟩
set_option maxHeartbeats 400000 in
theorem shrunk_neg_a (l m h v : Int) (hp : okP l m = true) (hn : h < 0 ∨ v < 0) (hvh : v < h) (w : World) :
    Calls Try.prog 17 #[.agg #[.int .i64 l, .int .i64 m], .int .i64 h, .int .i64 v] w fun e w' => e = .returned (.int .i64 h) ∧ Below w.heap.size w w' := by
  go_enter Try.func17, Try.ntmps17
  go_wp2_with (go_at_call 15; refine (right_any _ _ _).mono ?_; rintro e w' ⟨rfl, rfl⟩)
  go_ret
  exact ⟨rfl, ((Below.refl _ _).alloc (Nat.le_refl _) _).alloc (by simp) _⟩
set_option maxHeartbeats 400000 in
theorem shrunk_neg_b (l m h v : Int) (hp : okP l m = true) (hn : h < 0 ∨ v < 0) (hvh : ¬ v < h) (w : World) :
    Calls Try.prog 17 #[.agg #[.int .i64 l, .int .i64 m], .int .i64 h, .int .i64 v] w fun e w' => e = .returned (.int .i64 h) ∧ Below w.heap.size w w' := by
  go_enter Try.func17, Try.ntmps17
  go_wp2_with (go_at_call 15; refine (right_any _ _ _).mono ?_; rintro e w' ⟨rfl, rfl⟩)
  go_ret
  exact ⟨rfl, ((Below.refl _ _).alloc (Nat.le_refl _) _).alloc (by simp) _⟩
set_option maxHeartbeats 400000 in
theorem shrunk_pos_a (l m h v : Int) (hp : okP l m = true) (h0 : 0 ≤ h) (hv : 0 ≤ v) (hh : h ≤ 9223372036854775807) (hvh : v < h) (w : World) :
    Calls Try.prog 17 #[.agg #[.int .i64 l, .int .i64 m], .int .i64 h, .int .i64 v] w fun e w' => e = .returned (.int .i64 (shr l v h)) ∧ Below w.heap.size w w' := by
  obtain ⟨p1, p2, p3⟩ := (okP_iff _ _).1 hp
  go_enter Try.func17, Try.ntmps17
  go_wp2_with (go_at_call 15; refine (right_any _ _ _).mono ?_; rintro e w' ⟨rfl, rfl⟩)
  go_loop [1] (fun i => ∃ k : Int, 0 ≤ k ∧ k ≤ 9223372036854775807 ∧ i = .int .i64 k ∧ shr l v k = shr l v h) (fun i => (intOf i).toNat)
  case atStart => exact ⟨h, h0, hh, rfl, rfl⟩
  case round =>
    obtain ⟨k, k0, k1, rfl, hk⟩ := hrel
    have HK := Lib.hid hk
    clear hk hvh h0
    go_wp2
    all_goals first | (exact ⟨⟨k / 2, by omega, by omega, rfl, (shr_step (by omega) ⟨by omega, by omega⟩).symm.trans HK.out⟩, by simp only [intOf]; omega⟩) | (go_ret; exact ⟨ret_int ((shr_stop (by omega)).symm.trans HK.out), ((Below.refl _ _).alloc (Nat.le_refl _) _).alloc (by simp) _⟩)
set_option maxHeartbeats 400000 in
theorem shrunk_pos_b (l m h v : Int) (hp : okP l m = true) (h0 : 0 ≤ h) (hv : 0 ≤ v) (hh : h ≤ 9223372036854775807) (hvh : ¬ v < h) (w : World) :
    Calls Try.prog 17 #[.agg #[.int .i64 l, .int .i64 m], .int .i64 h, .int .i64 v] w fun e w' => e = .returned (.int .i64 (shr l v h)) ∧ Below w.heap.size w w' := by
  obtain ⟨p1, p2, p3⟩ := (okP_iff _ _).1 hp
  go_enter Try.func17, Try.ntmps17
  go_wp2_with (go_at_call 15; refine (right_any _ _ _).mono ?_; rintro e w' ⟨rfl, rfl⟩)
  go_loop [1] (fun i => ∃ k : Int, 0 ≤ k ∧ k ≤ 9223372036854775807 ∧ i = .int .i64 k ∧ shr l v k = shr l v h) (fun i => (intOf i).toNat)
  case atStart => exact ⟨h, h0, hh, rfl, rfl⟩
  case round =>
    obtain ⟨k, k0, k1, rfl, hk⟩ := hrel
    have HK := Lib.hid hk
    clear hk hvh h0
    go_wp2
    all_goals first | (exact ⟨⟨k / 2, by omega, by omega, rfl, (shr_step (by omega) ⟨by omega, by omega⟩).symm.trans HK.out⟩, by simp only [intOf]; omega⟩) | (go_ret; exact ⟨ret_int ((shr_stop (by omega)).symm.trans HK.out), ((Below.refl _ _).alloc (Nat.le_refl _) _).alloc (by simp) _⟩)
theorem shrunk_any (l m h v : Int) (hh : h ≤ 9223372036854775807) (w : World) :
    Calls Try.prog 17 #[.agg #[.int .i64 l, .int .i64 m], .int .i64 h, .int .i64 v] w fun e w' => e = .returned (.int .i64 (shrunk l m h v)) ∧ Below w.heap.size w w' := by
  cases hp : okP l m
  · rw [shrunk_no (by simp [hp])]; exact shrunk_not l m h v hp w
  · by_cases hc : 0 ≤ h ∧ 0 ≤ v
    · rw [shrunk_yes hp hc.1 hc.2]
      by_cases hvh : v < h
      · exact shrunk_pos_a l m h v hp hc.1 hc.2 hh hvh w
      · exact shrunk_pos_b l m h v hp hc.1 hc.2 hh hvh w
    · rw [shrunk_no (fun h' => hc h'.2)]
      by_cases hvh : v < h
      · exact shrunk_neg_a l m h v hp (by omega) hvh w
      · exact shrunk_neg_b l m h v hp (by omega) hvh w
set_option maxHeartbeats 400000 in
theorem refShrunk_not (l m h v : Int) (hp : okP l m = false) (w : World) :
    Calls Try.prog 18 #[.agg #[.int .i64 l, .int .i64 m], .int .i64 h, .int .i64 v] w fun e w' => e = .returned (.int .i64 h) ∧ Below w.heap.size w w' := by
  go_enter Try.func18, Try.ntmps18
  go_wp2_with (go_at_call 16; refine (refRight_any _ _ _).mono ?_; rintro e w' ⟨rfl, rfl⟩)
  go_ret
  exact ⟨rfl, ((Below.refl _ _).alloc (Nat.le_refl _) _).alloc (by simp) _⟩
set_option maxHeartbeats 400000 in
theorem refShrunk_neg_a (l m h v : Int) (hp : okP l m = true) (_hn : h < 0 ∨ v < 0) (hvh : h < 0) (w : World) :
    Calls Try.prog 18 #[.agg #[.int .i64 l, .int .i64 m], .int .i64 h, .int .i64 v] w fun e w' => e = .returned (.int .i64 h) ∧ Below w.heap.size w w' := by
  go_enter Try.func18, Try.ntmps18
  go_wp2_with (go_at_call 16; refine (refRight_any _ _ _).mono ?_; rintro e w' ⟨rfl, rfl⟩)
  go_ret
  exact ⟨rfl, ((Below.refl _ _).alloc (Nat.le_refl _) _).alloc (by simp) _⟩
set_option maxHeartbeats 400000 in
theorem refShrunk_neg_b (l m h v : Int) (hp : okP l m = true) (hn : h < 0 ∨ v < 0) (hvh : ¬ h < 0) (w : World) :
    Calls Try.prog 18 #[.agg #[.int .i64 l, .int .i64 m], .int .i64 h, .int .i64 v] w fun e w' => e = .returned (.int .i64 h) ∧ Below w.heap.size w w' := by
  go_enter Try.func18, Try.ntmps18
  go_wp2_with (go_at_call 16; refine (refRight_any _ _ _).mono ?_; rintro e w' ⟨rfl, rfl⟩)
  go_ret
  exact ⟨rfl, ((Below.refl _ _).alloc (Nat.le_refl _) _).alloc (by simp) _⟩
set_option maxHeartbeats 400000 in
theorem refShrunk_pos_a (l m h v : Int) (hp : okP l m = true) (h0 : 0 ≤ h) (hv : 0 ≤ v) (hh : h ≤ 9223372036854775807)  (w : World) :
    Calls Try.prog 18 #[.agg #[.int .i64 l, .int .i64 m], .int .i64 h, .int .i64 v] w fun e w' => e = .returned (.int .i64 (shr l v h)) ∧ Below w.heap.size w w' := by
  obtain ⟨p1, p2, p3⟩ := (okP_iff _ _).1 hp
  go_enter Try.func18, Try.ntmps18
  go_wp2_with (go_at_call 16; refine (refRight_any _ _ _).mono ?_; rintro e w' ⟨rfl, rfl⟩)
  go_loop [1] (fun i => ∃ k : Int, 0 ≤ k ∧ k ≤ 9223372036854775807 ∧ i = .int .i64 k ∧ shr l v k = shr l v h) (fun i => (intOf i).toNat)
  case atStart => exact ⟨h, h0, hh, rfl, rfl⟩
  case round =>
    obtain ⟨k, k0, k1, rfl, hk⟩ := hrel
    have HK := Lib.hid hk
    clear hk h0
    go_wp2
    all_goals (try simp only [bne_iff_ne, ne_eq, bne_eq_false_iff_eq] at *)
    all_goals first | (exact ⟨⟨k / 2, by omega, by omega, rfl, (shr_step (by omega) ⟨by omega, by omega⟩).symm.trans HK.out⟩, by simp only [intOf]; omega⟩) | (go_ret; exact ⟨ret_int ((shr_stop (by omega)).symm.trans HK.out), ((Below.refl _ _).alloc (Nat.le_refl _) _).alloc (by simp) _⟩)
theorem refShrunk_any (l m h v : Int) (hh : h ≤ 9223372036854775807) (w : World) :
    Calls Try.prog 18 #[.agg #[.int .i64 l, .int .i64 m], .int .i64 h, .int .i64 v] w fun e w' => e = .returned (.int .i64 (shrunk l m h v)) ∧ Below w.heap.size w w' := by
  cases hp : okP l m
  · rw [shrunk_no (by simp [hp])]; exact refShrunk_not l m h v hp w
  · by_cases hc : 0 ≤ h ∧ 0 ≤ v
    · rw [shrunk_yes hp hc.1 hc.2]
      exact refShrunk_pos_a l m h v hp hc.1 hc.2 hh w
    · rw [shrunk_no (fun h' => hc h'.2)]
      by_cases hvh : h < 0
      · exact refShrunk_neg_a l m h v hp (by omega) hvh w
      · exact refShrunk_neg_b l m h v hp (by omega) hvh w
end Go.Proofs.Ytfchkgihiclkkaa
