/-
  The walks of pigeonholelaw26.awake, RoomTells, RoomFits: true at every input.
-/
import Derived.Test.YtfchkgihiclkkaaWalkI
import Derived.Deep.RegionHeld3
namespace Go.Proofs.Ytfchkgihiclkkaa
open Go.RowKit

theorem bcell {W w1 : World} (hb : Below W.heap.size W w1) {b o : Nat} {x : Value} (h : W.cell? ⟨b, o, none⟩ = some x) : w1.cell? ⟨b, o, none⟩ = some x :=
  (hb.cell (p := ⟨b, o, none⟩) (World.block_lt_of_cell? W _ h)).trans h

theorem grown_at (l m h v u n : Int) (b : Bool) (hn : grown l m h v u = n) (hb : okG l m h v u = b) (w : World) :
    Calls Try.prog 13 #[.agg #[.int .i64 l, .int .i64 m], .int .i64 h, .int .i64 v, .int .i64 u] w fun e w' => e = .returned (.tuple #[.int .i64 n, .bool b]) ∧ Below w.heap.size w w' := by
  subst hn; subst hb; exact grown_any l m h v u w
theorem shrunk_at (l m h v n : Int) (hh : h ≤ 9223372036854775807) (hn : shrunk l m h v = n) (w : World) :
    Calls Try.prog 17 #[.agg #[.int .i64 l, .int .i64 m], .int .i64 h, .int .i64 v] w fun e w' => e = .returned (.int .i64 n) ∧ Below w.heap.size w w' := by
  subst hn; exact shrunk_any l m h v hh w

set_option maxHeartbeats 800000 in
theorem awakeRoom_any (w : World) : Calls Try.prog 19 #[] w fun e w' => e = .returned (.bool true) ∧ Below w.heap.size w w' := by
  go_enter Try.func19, Try.ntmps19
  go_wp2_with fail
  refine (grown_at 16 100 0 0 5 16 true (by decide +kernel) (by decide +kernel) _).mono ?_
  rintro e w1 ⟨rfl, h1⟩
  have c1 : w1.cell? ⟨w.heap.size, 0, none⟩ = some (.int .i64 16) := bcell h1 (by simp)
  have d1 : w1.cell? ⟨w.heap.size, 1, none⟩ = some (.int .i64 100) := bcell h1 (by simp)
  have H1 := Lib.hid (((Below.refl w.heap.size w).alloc (Nat.le_refl _) _).trans (h1.mono (by simp)))
  clear h1
  go_wp2_with fail
  refine (grown_at 16 100 16 10 20 32 true (by decide +kernel) (by decide +kernel) _).mono ?_
  rintro e w2 ⟨rfl, h2⟩
  have c2 : w2.cell? ⟨w.heap.size, 0, none⟩ = some (.int .i64 16) := bcell h2 c1
  have d2 : w2.cell? ⟨w.heap.size, 1, none⟩ = some (.int .i64 100) := bcell h2 d1
  have H2 := Lib.hid (H1.out.trans (h2.mono H1.out.size))
  clear h2 c1 d1
  go_wp2_with fail
  refine (grown_at 16 100 64 0 70 100 true (by decide +kernel) (by decide +kernel) _).mono ?_
  rintro e w3 ⟨rfl, h3⟩
  have c3 : w3.cell? ⟨w.heap.size, 0, none⟩ = some (.int .i64 16) := bcell h3 c2
  have d3 : w3.cell? ⟨w.heap.size, 1, none⟩ = some (.int .i64 100) := bcell h3 d2
  have H3 := Lib.hid (H2.out.trans (h3.mono H2.out.size))
  clear h3 c2 d2
  go_wp2_with fail
  refine (grown_at 16 100 16 50 51 0 false (by decide +kernel) (by decide +kernel) _).mono ?_
  rintro e w4 ⟨rfl, h4⟩
  have c4 : w4.cell? ⟨w.heap.size, 0, none⟩ = some (.int .i64 16) := bcell h4 c3
  have d4 : w4.cell? ⟨w.heap.size, 1, none⟩ = some (.int .i64 100) := bcell h4 d3
  have H4 := Lib.hid (H3.out.trans (h4.mono H3.out.size))
  clear h4 c3 d3
  go_wp2_with fail
  refine (shrunk_at 16 100 100 3 25 (by decide) (by decide +kernel) _).mono ?_
  rintro e w5 ⟨rfl, h5⟩
  have c5 : w5.cell? ⟨w.heap.size, 0, none⟩ = some (.int .i64 16) := bcell h5 c4
  have d5 : w5.cell? ⟨w.heap.size, 1, none⟩ = some (.int .i64 100) := bcell h5 d4
  have H5 := Lib.hid (H4.out.trans (h5.mono H4.out.size))
  clear h5 c4 d4
  go_wp2_with fail
  refine (shrunk_at 16 100 100 25 100 (by decide) (by decide +kernel) _).mono ?_
  rintro e w6 ⟨rfl, h6⟩
  have c6 : w6.cell? ⟨w.heap.size, 0, none⟩ = some (.int .i64 16) := bcell h6 c5
  have d6 : w6.cell? ⟨w.heap.size, 1, none⟩ = some (.int .i64 100) := bcell h6 d5
  have H6 := Lib.hid (H5.out.trans (h6.mono H5.out.size))
  clear h6 c5 d5
  go_wp2_with fail
  refine (right_any _ _ _).mono ?_
  rintro e w7 ⟨rfl, rfl⟩
  have hr : okP 16 100 = true := by decide
  go_wp2_with fail
  go_ret
  exact ⟨ret_bl hr, H6.out.alloc H6.out.size _⟩

/-! ### RoomTells -/
theorem tells_keep {B : Nat} {l m : Int} {w W V : World} (hB : B ≤ w.heap.size) (h : W.cell? ⟨B, 0, none⟩ = some (.int .i64 l) ∧ W.cell? ⟨B, 1, none⟩ = some (.int .i64 m) ∧ W.cell? ⟨B + 1, 0, none⟩ = some (.int .i64 l) ∧ W.cell? ⟨B + 1, 1, none⟩ = some (.int .i64 m) ∧ Below B w W) (hb : Below W.heap.size W V) :
    V.cell? ⟨B, 0, none⟩ = some (.int .i64 l) ∧ V.cell? ⟨B, 1, none⟩ = some (.int .i64 m) ∧ V.cell? ⟨B + 1, 0, none⟩ = some (.int .i64 l) ∧ V.cell? ⟨B + 1, 1, none⟩ = some (.int .i64 m) ∧ Below B w V :=
  ⟨bcell hb h.1, bcell hb h.2.1, bcell hb h.2.2.1, bcell hb h.2.2.2.1, h.2.2.2.2.trans (hb.mono (Nat.le_trans hB h.2.2.2.2.size))⟩
theorem right_tells (B : Nat) (l m : Int) (w W : World) (hB : B ≤ w.heap.size) (h : W.cell? ⟨B, 0, none⟩ = some (.int .i64 l) ∧ W.cell? ⟨B, 1, none⟩ = some (.int .i64 m) ∧ W.cell? ⟨B + 1, 0, none⟩ = some (.int .i64 l) ∧ W.cell? ⟨B + 1, 1, none⟩ = some (.int .i64 m) ∧ Below B w W) :
    Calls Try.prog 15 #[.agg #[.int .i64 l, .int .i64 m]] W fun e W' => e = .returned (.bool (okP l m)) ∧ W'.cell? ⟨B, 0, none⟩ = some (.int .i64 l) ∧ W'.cell? ⟨B, 1, none⟩ = some (.int .i64 m) ∧ W'.cell? ⟨B + 1, 0, none⟩ = some (.int .i64 l) ∧ W'.cell? ⟨B + 1, 1, none⟩ = some (.int .i64 m) ∧ Below B w W' :=
  (right_any l m W).mono fun _ _ hq => ⟨hq.1, tells_keep hB h (by rw [hq.2]; exact (Below.refl _ _).alloc (Nat.le_refl _) _)⟩
theorem refRight_tells (B : Nat) (l m : Int) (w W : World) (hB : B ≤ w.heap.size) (h : W.cell? ⟨B, 0, none⟩ = some (.int .i64 l) ∧ W.cell? ⟨B, 1, none⟩ = some (.int .i64 m) ∧ W.cell? ⟨B + 1, 0, none⟩ = some (.int .i64 l) ∧ W.cell? ⟨B + 1, 1, none⟩ = some (.int .i64 m) ∧ Below B w W) :
    Calls Try.prog 16 #[.agg #[.int .i64 l, .int .i64 m]] W fun e W' => e = .returned (.bool (okP l m)) ∧ W'.cell? ⟨B, 0, none⟩ = some (.int .i64 l) ∧ W'.cell? ⟨B, 1, none⟩ = some (.int .i64 m) ∧ W'.cell? ⟨B + 1, 0, none⟩ = some (.int .i64 l) ∧ W'.cell? ⟨B + 1, 1, none⟩ = some (.int .i64 m) ∧ Below B w W' :=
  (refRight_any l m W).mono fun _ _ hq => ⟨hq.1, tells_keep hB h (by rw [hq.2]; exact (Below.refl _ _).alloc (Nat.le_refl _) _)⟩
theorem shrunk_tells (B : Nat) (l m h v : Int) (hh : h ≤ 9223372036854775807) (w W : World) (hB : B ≤ w.heap.size) (hc : W.cell? ⟨B, 0, none⟩ = some (.int .i64 l) ∧ W.cell? ⟨B, 1, none⟩ = some (.int .i64 m) ∧ W.cell? ⟨B + 1, 0, none⟩ = some (.int .i64 l) ∧ W.cell? ⟨B + 1, 1, none⟩ = some (.int .i64 m) ∧ Below B w W) :
    Calls Try.prog 17 #[.agg #[.int .i64 l, .int .i64 m], .int .i64 h, .int .i64 v] W fun e W' => e = .returned (.int .i64 (shrunk l m h v)) ∧ W'.cell? ⟨B, 0, none⟩ = some (.int .i64 l) ∧ W'.cell? ⟨B, 1, none⟩ = some (.int .i64 m) ∧ W'.cell? ⟨B + 1, 0, none⟩ = some (.int .i64 l) ∧ W'.cell? ⟨B + 1, 1, none⟩ = some (.int .i64 m) ∧ Below B w W' :=
  (shrunk_any l m h v hh W).mono fun _ _ hq => ⟨hq.1, tells_keep hB hc hq.2⟩
theorem refShrunk_tells (B : Nat) (l m h v : Int) (hh : h ≤ 9223372036854775807) (w W : World) (hB : B ≤ w.heap.size) (hc : W.cell? ⟨B, 0, none⟩ = some (.int .i64 l) ∧ W.cell? ⟨B, 1, none⟩ = some (.int .i64 m) ∧ W.cell? ⟨B + 1, 0, none⟩ = some (.int .i64 l) ∧ W.cell? ⟨B + 1, 1, none⟩ = some (.int .i64 m) ∧ Below B w W) :
    Calls Try.prog 18 #[.agg #[.int .i64 l, .int .i64 m], .int .i64 h, .int .i64 v] W fun e W' => e = .returned (.int .i64 (shrunk l m h v)) ∧ W'.cell? ⟨B, 0, none⟩ = some (.int .i64 l) ∧ W'.cell? ⟨B, 1, none⟩ = some (.int .i64 m) ∧ W'.cell? ⟨B + 1, 0, none⟩ = some (.int .i64 l) ∧ W'.cell? ⟨B + 1, 1, none⟩ = some (.int .i64 m) ∧ Below B w W' :=
  (refShrunk_any l m h v hh W).mono fun _ _ hq => ⟨hq.1, tells_keep hB hc hq.2⟩
theorem awakeRoom_tells (B : Nat) (l m : Int) (w W : World) (hB : B ≤ w.heap.size) (hc : W.cell? ⟨B, 0, none⟩ = some (.int .i64 l) ∧ W.cell? ⟨B, 1, none⟩ = some (.int .i64 m) ∧ W.cell? ⟨B + 1, 0, none⟩ = some (.int .i64 l) ∧ W.cell? ⟨B + 1, 1, none⟩ = some (.int .i64 m) ∧ Below B w W) :
    Calls Try.prog 19 #[] W fun e W' => e = .returned (.bool true) ∧ W'.cell? ⟨B, 0, none⟩ = some (.int .i64 l) ∧ W'.cell? ⟨B, 1, none⟩ = some (.int .i64 m) ∧ W'.cell? ⟨B + 1, 0, none⟩ = some (.int .i64 l) ∧ W'.cell? ⟨B + 1, 1, none⟩ = some (.int .i64 m) ∧ Below B w W' :=
  (awakeRoom_any W).mono fun _ _ hq => ⟨hq.1, tells_keep hB hc hq.2⟩
set_option maxHeartbeats 800000 in
theorem tells_any (l m h v u : Int) (_w0 : (Lit.int .i64 l).wf = true) (_w1 : (Lit.int .i64 m).wf = true) (w2 : (Lit.int .i64 h).wf = true) (_w3 : (Lit.int .i64 v).wf = true) (_w4 : (Lit.int .i64 u).wf = true) (w : World) :
    Calls Try.prog 3 #[.int .i64 l, .int .i64 m, .int .i64 h, .int .i64 v, .int .i64 u] w fun e w' => e = .returned (.bool true) ∧ Below w.heap.size w w' := by
  have hh : h ≤ 9223372036854775807 := by
    simp [Lit.wf, IntKind.min, IntKind.max, IntKind.signed, IntKind.bits] at w2; omega
  clear _w0 _w1 w2 _w3 _w4
  go_enter Try.func3, Try.ntmps3
  go_wp2_with fail
  refine (grown_any l m h v u _).mono ?_
  rintro e w1 ⟨rfl, h1⟩
  have hs1 : w1.cell? ⟨w.heap.size, 0, none⟩ = some (.int .i64 l) ∧ w1.cell? ⟨w.heap.size, 1, none⟩ = some (.int .i64 m) ∧ w1.cell? ⟨w.heap.size + 1, 0, none⟩ = some (.int .i64 l) ∧ w1.cell? ⟨w.heap.size + 1, 1, none⟩ = some (.int .i64 m) ∧ Below w.heap.size w w1 :=
    tells_keep (Nat.le_refl _) ⟨by simp, by simp, by simp, by simp, ((Below.refl _ _).alloc (Nat.le_refl _) _).alloc (by simp) _⟩ h1
  clear h1
  obtain ⟨a1, a2, a3, a4, hb1⟩ := hs1
  have HB1 := Lib.hid hb1
  clear hb1
  go_wp2_with fail
  refine (refGrown_any l m h v u _).mono ?_
  rintro e w2 ⟨rfl, h2⟩
  obtain ⟨b1, b2, b3, b4, hb2⟩ := tells_keep (Nat.le_refl _) ⟨a1, a2, a3, a4, HB1.out⟩ h2
  have HB2 := Lib.hid hb2
  clear h2 a1 a2 a3 a4 hb2
  go_wp2_with fail
  go_region_held3 (fun W' => W'.cell? ⟨w.heap.size, 0, none⟩ = some (.int .i64 l) ∧ W'.cell? ⟨w.heap.size, 1, none⟩ = some (.int .i64 m) ∧ W'.cell? ⟨w.heap.size + 1, 0, none⟩ = some (.int .i64 l) ∧ W'.cell? ⟨w.heap.size + 1, 1, none⟩ = some (.int .i64 m) ∧ Below w.heap.size w W') (first | exact ⟨b1, b2, b3, b4, HB2.out.drew⟩ | assumption)
    (first | (go_at_call 15; refine (right_tells w.heap.size l m w _ (Nat.le_refl _) (by assumption)).mono ?_; rintro e w' ⟨rfl, hs⟩) | (go_at_call 16; refine (refRight_tells w.heap.size l m w _ (Nat.le_refl _) (by assumption)).mono ?_; rintro e w' ⟨rfl, hs⟩) | (go_at_call 17; refine (shrunk_tells w.heap.size l m h v hh w _ (Nat.le_refl _) (by assumption)).mono ?_; rintro e w' ⟨rfl, hs⟩) | (go_at_call 18; refine (refShrunk_tells w.heap.size l m h v hh w _ (Nat.le_refl _) (by assumption)).mono ?_; rintro e w' ⟨rfl, hs⟩) | (go_at_call 19; refine (awakeRoom_tells w.heap.size l m w _ (Nat.le_refl _) (by assumption)).mono ?_; rintro e w' ⟨rfl, hs⟩))
  go_wp2
  go_ret
  exact ⟨rfl, (‹_ ∧ _ ∧ _ ∧ _ ∧ Below w.heap.size w _›).2.2.2.2⟩
end Go.Proofs.Ytfchkgihiclkkaa
