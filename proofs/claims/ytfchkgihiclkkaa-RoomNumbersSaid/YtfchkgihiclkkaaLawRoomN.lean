/-
  The walk of RoomNumbers: each call of RoomTells in its loops hands back true.
-/
import Derived.Test.YtfchkgihiclkkaaLawRoom
namespace Go.Proofs.Ytfchkgihiclkkaa
open Go.RowKit

/-- The ends that the statement lists. -/
def ev (j : Nat) : Int := [-9223372036854775808, -1, 0, 15, 16, 17, 100, 16383, 16384, 16385, 4611686018427387904, 9223372036854775807].getD j 0
theorem ev_wf (j : Nat) : (Lit.int .i64 (ev j)).wf = true := by
  match j with
  | 0 | 1 | 2 | 3 | 4 | 5 | 6 | 7 | 8 | 9 | 10 | 11 => decide
  | j + 12 => rfl
/-- Block B holds the ends; what lay when the call began lies as it lay. -/
structure EndsAt (B : Nat) (w W : World) : Prop where
  cell : ∀ j, j < 12 → W.cell? ⟨B, j, none⟩ = some (.int .i64 (ev j))
  below : Below w.heap.size w W
theorem EndsAt.keep {B : Nat} {w W V : World} (h : EndsAt B w W) (hb : Below W.heap.size W V) : EndsAt B w V :=
  ⟨fun j hj => (hb.cell (p := ⟨B, j, none⟩) (World.block_lt_of_cell? W _ (h.cell j hj))).trans (h.cell j hj), h.below.trans (hb.mono h.below.size)⟩
theorem EndsAt.start (w : World) : EndsAt w.heap.size w (w.alloc (.cells #[.int .i64 (-9223372036854775808), .int .i64 (-1), .int .i64 0, .int .i64 15, .int .i64 16, .int .i64 17, .int .i64 100, .int .i64 16383, .int .i64 16384, .int .i64 16385, .int .i64 4611686018427387904, .int .i64 9223372036854775807] 3)) := by
  refine ⟨fun j hj => ?_, (Below.refl _ _).alloc (Nat.le_refl _) _⟩
  rw [World.cell?_alloc_new]
  match j, hj with
  | 0, _ | 1, _ | 2, _ | 3, _ | 4, _ | 5, _ | 6, _ | 7, _ | 8, _ | 9, _ | 10, _ | 11, _ => rfl

theorem EndsAt.drew' {B : Nat} {w W : World} (h : EndsAt B w W) : EndsAt B w W.drew := ⟨h.cell, h.below.drew⟩
theorem ends_all {B : Nat} {w W : World} (h : EndsAt B w W) (i k n : Nat) (hi : i < 12) (hk : k < 12) (hn : n < 12) : W.cell? ⟨B, i, none⟩ = some (.int .i64 (ev i)) ∧ W.cell? ⟨B, k, none⟩ = some (.int .i64 (ev k)) ∧ W.cell? ⟨B, n, none⟩ = some (.int .i64 (ev n)) ∧ W.cell? ⟨B, (i + n) % 12, none⟩ = some (.int .i64 (ev ((i + n) % 12))) ∧ W.cell? ⟨B, (k + n) % 12, none⟩ = some (.int .i64 (ev ((k + n) % 12))) ∧ EndsAt B w W :=
  ⟨h.cell i hi, h.cell k hk, h.cell n hn, h.cell _ (Nat.mod_lt _ (by decide)), h.cell _ (Nat.mod_lt _ (by decide)), h⟩
theorem tells_ends (B i k n : Nat) (hi : i < 12) (hk : k < 12) (hn : n < 12) (a b c d e : Int) (ha : (Lit.int .i64 a).wf = true) (hb : (Lit.int .i64 b).wf = true) (hc : (Lit.int .i64 c).wf = true) (hd : (Lit.int .i64 d).wf = true) (he : (Lit.int .i64 e).wf = true)
    (w W : World) (h : W.cell? ⟨B, i, none⟩ = some (.int .i64 (ev i)) ∧ W.cell? ⟨B, k, none⟩ = some (.int .i64 (ev k)) ∧ W.cell? ⟨B, n, none⟩ = some (.int .i64 (ev n)) ∧ W.cell? ⟨B, (i + n) % 12, none⟩ = some (.int .i64 (ev ((i + n) % 12))) ∧ W.cell? ⟨B, (k + n) % 12, none⟩ = some (.int .i64 (ev ((k + n) % 12))) ∧ EndsAt B w W) :
    Calls Try.prog 3 #[.int .i64 a, .int .i64 b, .int .i64 c, .int .i64 d, .int .i64 e] W fun r V => r = .returned (.bool true) ∧ V.cell? ⟨B, i, none⟩ = some (.int .i64 (ev i)) ∧ V.cell? ⟨B, k, none⟩ = some (.int .i64 (ev k)) ∧ V.cell? ⟨B, n, none⟩ = some (.int .i64 (ev n)) ∧ V.cell? ⟨B, (i + n) % 12, none⟩ = some (.int .i64 (ev ((i + n) % 12))) ∧ V.cell? ⟨B, (k + n) % 12, none⟩ = some (.int .i64 (ev ((k + n) % 12))) ∧ EndsAt B w V :=
  (tells_any a b c d e ha hb hc hd he W).mono fun _ _ hq => ⟨hq.1, ends_all (h.2.2.2.2.2.keep hq.2) i k n hi hk hn⟩
theorem sum_mod (a b : Nat) (ha : a < 12) (hb : b < 12) : IntKind.i64.wrap ((a : Int) + (b : Int)) = (a : Int) + (b : Int) ∧ ((a : Int) + (b : Int)).tmod 12 = ((a : Int) + (b : Int)) % 12 ∧
    0 ≤ ((a : Int) + (b : Int)) % 12 ∧ ((a : Int) + (b : Int)) % 12 < 12 ∧ (((a : Int) + (b : Int)) % 12).toNat = (a + b) % 12 ∧ IntKind.i64.wrap (((a : Int) + (b : Int)) % 12) = ((a : Int) + (b : Int)) % 12 := by
  refine ⟨IntWalk.i64_in _ (by omega), Int.tmod_eq_emod_of_nonneg (by omega), by omega, by omega, by omega, IntWalk.i64_in _ (by omega)⟩
set_option maxRecDepth 100000 in
set_option maxHeartbeats 4000000 in
theorem roomNumbers_any (w : World) : Calls Try.prog 4 #[] w fun e w' => e = .returned (.bool true) ∧ Below w.heap.size w w' := by
  have HST := Lib.hid (EndsAt.start w)
  go_enter Try.func4, Try.ntmps4
  go_wp2_with fail
  go_loopw [2] (fun x wr => ∃ i : Nat, i ≤ 12 ∧ x = .int .i64 i ∧ EndsAt w.heap.size w wr) (fun x _ => 12 - (intOf x).toNat)
  case atStart => exact ⟨0, by omega, rfl, HST.out⟩
  case round =>
    obtain ⟨i, hi, rfl, hE⟩ := hrel
    have HE := Lib.hid hE
    clear hE
    by_cases hi2 : i < 12
    · have i1 : (i : Int) < 12 := by omega
      go_wp2_with fail
      obtain ⟨wo, rfl⟩ : ∃ wo : World, wo = wr := ⟨_, rfl⟩
      go_loopw [3] (fun x wr => ∃ k : Nat, k ≤ 12 ∧ x = .int .i64 k ∧ EndsAt w.heap.size w wr) (fun x _ => 12 - (intOf x).toNat)
      case atStart => exact ⟨0, by omega, rfl, HE.out⟩
      case round =>
        obtain ⟨k, hk, rfl, hE2⟩ := hrel
        have HE2 := Lib.hid hE2
        clear hE2
        by_cases hk2 : k < 12
        · have k1 : (k : Int) < 12 := by omega
          go_wp2_with fail
          obtain ⟨wp, rfl⟩ : ∃ wp : World, wp = wr := ⟨_, rfl⟩
          go_loopw [4] (fun x wr => ∃ n : Nat, n ≤ 12 ∧ x = .int .i64 n ∧ EndsAt w.heap.size w wr) (fun x _ => 12 - (intOf x).toNat)
          case atStart => exact ⟨0, by omega, rfl, HE2.out⟩
          case round =>
            obtain ⟨n, hn, rfl, hE3⟩ := hrel
            by_cases hn2 : n < 12
            · have n1 : (n : Int) < 12 := by omega
              obtain ⟨e1, e2, e3, e4, e5, _⟩ := ends_all hE3 i k n hi2 hk2 hn2
              have HE3 := Lib.hid hE3
              clear hE3
              go_wp2_with fail
              obtain ⟨x1, x2, x3, x4, x5, x6⟩ := sum_mod i n hi2 hn2
              obtain ⟨y1, y2, y3, y4, y5, y6⟩ := sum_mod k n hk2 hn2
              go_region_held3 (fun W' => W'.cell? ⟨w.heap.size, i, none⟩ = some (.int .i64 (ev i)) ∧ W'.cell? ⟨w.heap.size, k, none⟩ = some (.int .i64 (ev k)) ∧ W'.cell? ⟨w.heap.size, n, none⟩ = some (.int .i64 (ev n)) ∧ W'.cell? ⟨w.heap.size, (i + n) % 12, none⟩ = some (.int .i64 (ev ((i + n) % 12))) ∧ W'.cell? ⟨w.heap.size, (k + n) % 12, none⟩ = some (.int .i64 (ev ((k + n) % 12))) ∧ EndsAt w.heap.size w W') (first | exact ⟨e1, e2, e3, e4, e5, HE3.out.drew'⟩ | assumption)
                (first | (go_at_call 3; refine (tells_ends w.heap.size i k n hi2 hk2 hn2 _ _ _ _ _ (by first | exact ev_wf _ | decide) (by first | exact ev_wf _ | decide) (by first | exact ev_wf _ | decide) (by first | exact ev_wf _ | decide) (by first | exact ev_wf _ | decide) w _ (by assumption)).mono ?_; rintro e w' ⟨rfl, hs⟩))
              have hEE : EndsAt w.heap.size w _ := (‹_ ∧ _ ∧ _ ∧ _ ∧ _ ∧ EndsAt w.heap.size w _›).2.2.2.2.2
              have HEE := Lib.hid hEE
              clear hEE x1 x2 x3 x4 x5 x6 y1 y2 y3 y4 y5 y6 e1 e2 e3 e4 e5
              go_wp2
              exact ⟨⟨n + 1, by omega, by go_num, HEE.out⟩, by show 12 - ((n : Int) + 1).toNat < 12 - (n : Int).toNat; omega⟩
            · have HE3 := Lib.hid hE3
              clear hE3
              go_wp2_with fail
              go_roundw
              case rel => exact ⟨k + 1, by omega, by go_num, HE3.out⟩
              case measure => show 12 - ((k : Int) + 1).toNat < 12 - (k : Int).toNat; omega
        · go_wp2_with fail
          go_roundw
          case rel => exact ⟨i + 1, by omega, by go_num, HE2.out⟩
          case measure => show 12 - ((i : Int) + 1).toNat < 12 - (i : Int).toNat; omega
    · have hB := HE.out.below
      have HB0 := Lib.hid hB
      clear hB HE
      go_wp2_with fail
      obtain ⟨wq, rfl⟩ : ∃ wq : World, wq = wr := ⟨_, rfl⟩
      go_loopw [5] (fun x wr => ∃ h : Nat, h ≤ 140 ∧ x = .int .i64 h ∧ Below w.heap.size w wr) (fun x _ => 140 - (intOf x).toNat)
      case atStart => exact ⟨0, by omega, rfl, HB0.out⟩
      case round =>
        obtain ⟨h, hh, rfl, hB⟩ := hrel
        have HB := Lib.hid hB
        clear hB
        have h0 : (0 : Int) ≤ (h : Int) := Int.natCast_nonneg _
        by_cases hh2 : h < 140
        · have h1 : (h : Int) < 140 := by omega
          go_wp2_with fail
          obtain ⟨wx, rfl⟩ : ∃ wx : World, wx = wr := ⟨_, rfl⟩
          go_loopw [6] (fun x wr => ∃ v : Nat, v ≤ 300 ∧ x = .int .i64 v ∧ Below w.heap.size w wr) (fun x _ => 300 - (intOf x).toNat)
          case atStart => exact ⟨0, by omega, rfl, HB.out⟩
          case round =>
            obtain ⟨v, hv, rfl, hB2⟩ := hrel
            have HB2 := Lib.hid hB2
            clear hB2
            have v0 : (0 : Int) ≤ (v : Int) := Int.natCast_nonneg _
            by_cases hv2 : v < 110
            · have v1 : (v : Int) < 110 := by omega
              go_wp2_with fail
              refine (tells_any 16 100 h v 0 (by decide) (by decide) (WalkArith.wf_i64 (by omega)) (WalkArith.wf_i64 (by omega)) (by decide) _).mono ?_
              rintro e w1 ⟨rfl, hb1⟩
              have H1 := Lib.hid (HB2.out.trans (hb1.mono HB2.out.size))
              clear hb1
              go_wp2_with fail
              refine (tells_any 20 77 h v _ (by decide) (by decide) (WalkArith.wf_i64 (by omega)) (WalkArith.wf_i64 (by omega)) (WalkArith.wf_i64 (by omega)) _).mono ?_
              rintro e w2 ⟨rfl, hb2⟩
              have H2 := Lib.hid (H1.out.trans (hb2.mono H1.out.size))
              clear hb2
              go_wp2_with fail
              refine (tells_any 33 33 h v 1 (by decide) (by decide) (WalkArith.wf_i64 (by omega)) (WalkArith.wf_i64 (by omega)) (by decide) _).mono ?_
              rintro e w3 ⟨rfl, hb3⟩
              have H3 := Lib.hid (H2.out.trans (hb3.mono H2.out.size))
              clear hb3
              go_wp2_with fail
              exact ⟨⟨v + 1 + v / 9, by omega, by go_num, H3.out⟩, by show 300 - ((v : Int) + 1 + (v : Int) / 9).toNat < 300 - (v : Int).toNat; omega⟩
            · go_wp2_with fail
              exact ⟨⟨h + 1, by omega, by go_num, HB2.out⟩, by show 140 - ((h : Int) + 1).toNat < 140 - (h : Int).toNat; omega⟩
        · go_wp2_with fail
          refine (awakeRoom_any _).mono ?_
          rintro e w1 ⟨rfl, hb1⟩
          go_wp2_with fail
          go_ret
          exact ⟨rfl, HB.out.trans (hb1.mono HB.out.size)⟩
end Go.Proofs.Ytfchkgihiclkkaa
