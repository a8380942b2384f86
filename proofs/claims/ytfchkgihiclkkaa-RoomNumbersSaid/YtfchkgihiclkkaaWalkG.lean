/-
  The walks of pigeonholeref26.Sizes and Grown.
-/
import Derived.Test.YtfchkgihiclkkaaWalkR
import Derived.Maps.AppendAt
import Derived.BigQuiet
import Derived.Deep.QuietTactic
namespace Go.Proofs.Ytfchkgihiclkkaa
open Go.RowKit

theorem info3 : (Try.prog.info? 3).map (fun i => (i.zero, i.size, i.bytes)) = some (some (.int .i64 0), 1, 8) := by kernel_rfl

/-- What has come, and what is to come, when a loop over a right plan's sizes stands at n. -/
structure SizesAt (l m : Int) (pre : List Int) (n : Int) : Prop where
  split : pre ++ sizesF (12 - pre.length) n m = sizesL l m
  few : pre.length ≤ 12
  big : 16 * ((2 ^ pre.length : Nat) : Int) ≤ n
  small : n ≤ 32768
theorem SizesAt.start {l m : Int} (hp : okP l m = true) : SizesAt l m [] l := by
  have := (okP_iff _ _).1 hp
  exact ⟨rfl, by simp, by simp; omega, by omega⟩
theorem SizesAt.step {l m n : Int} {pre : List Int} (h : SizesAt l m pre n) (hp : okP l m = true) (hn : n < m) : SizesAt l m (pre ++ [n]) (2 * n) := by
  have hP := (okP_iff _ _).1 hp
  have hk : pre.length < 12 := by
    rcases Nat.lt_or_ge pre.length 12 with h1 | h1
    · exact h1
    · have e : pre.length = 12 := by have := h.few; omega
      have := h.big; rw [e] at this
      have e2 : ((2 ^ 12 : Nat) : Int) = 4096 := rfl
      omega
  refine ⟨?_, by simp; omega, ?_, by omega⟩
  · rw [← h.split]
    obtain ⟨f, hf⟩ : ∃ f, 12 - pre.length = f + 1 := ⟨11 - pre.length, by omega⟩
    have hf2 : 12 - (pre ++ [n]).length = f := by simp; omega
    rw [hf, hf2, sizesF, if_pos hn]; simp
  · rw [List.length_append, List.length_singleton, Nat.pow_succ]
    have := h.big
    omega
theorem SizesAt.done {l m n : Int} {pre : List Int} (h : SizesAt l m pre n) (hn : ¬ n < m) : pre ++ [m] = sizesL l m := by
  rw [← h.split]
  congr 1
  cases 12 - pre.length with
  | zero => rfl
  | succ f => rw [sizesF, if_neg hn]

set_option maxHeartbeats 800000 in
theorem sizes_any (l m : Int) (hp : okP l m = true) (w : World) :
    Calls Try.prog 38 #[.agg #[.int .i64 l, .int .i64 m]] w fun e w' =>
      ∃ sv, e = .returned sv ∧ w'.ownsRow (w.heap.size + 1) 3 1 sv (sizesL l m).length ((sizesL l m).map (Value.int .i64)) ∧ Below w.heap.size w w' := by
  obtain ⟨p1, p2, p3⟩ := (okP_iff _ _).1 hp
  obtain ⟨i0, hi, hz0, hz1, hz2⟩ := info_parts info3
  have HP := Lib.hid hp
  clear hp
  go_enter Try.func38, Try.ntmps38
  go_wp2_with fail
  go_loopw [3, 4] (fun v i wr => ∃ (pre : List Int) (n : Int), i = .int .i64 n ∧ SizesAt l m pre n ∧ wr.ownsRow (w.heap.size + 1) 3 1 v pre.length (pre.map (Value.int .i64)) ∧ Below (w.heap.size + 1) (w.alloc (.cells #[.int .i64 l, .int .i64 m] 24)) wr)
    (fun _ i _ => (32768 - intOf i).toNat)
  case atStart => exact ⟨[], l, rfl, SizesAt.start HP.out, World.ownsRow_nil _ _ _ _, Below.refl _ _⟩
  case round =>
    obtain ⟨pre, n, rfl, hs, hown, hb⟩ := hrel
    have hlen := hs.few
    have hsm := hs.small
    have hbig : 16 ≤ n := by
      have h1 := hs.big
      have h2 : 1 ≤ 2 ^ pre.length := Nat.one_le_two_pow
      omega
    have hsz : w.heap.size + 1 ≤ wr.heap.size := by have := hb.size; simp at this; omega
    have c0 : wr.cell? ⟨w.heap.size, 0, none⟩ = some (.int .i64 l) := by rw [hb.cell (by simp)]; simp
    have c1 : wr.cell? ⟨w.heap.size, 1, none⟩ = some (.int .i64 m) := by rw [hb.cell (by simp)]; simp
    have HS := Lib.hid hs
    clear hs
    by_cases hn : n < m
    · go_wp2_with (at_builtin; refine wpList_append_own _ rfl (.tmp 13) (.tmp 15) 34 rfl (w.heap.size + 1) 3 i0 (.int .i64 0) 1 8 Try.underlying34 hi hz0 hz1 hz2 rfl (by decide) u3 pre.length _ rfl (hown.alloc _) ⟨wr.heap.size, 0, none⟩ 1 1 [.int .i64 n] rfl rfl (cell_one_new _ _ _) ?c2 ?c3 ?c4 ?c5 ?_)
      case c2 => first | rfl | (simp [Value.oneCell'])
      case c3 => unfold maxLen; omega
      case c4 => omega
      case c5 => first | omega | (simp; omega)
      intro v' w1 hown1 hgrow1 _
      have hb1 : Below (w.heap.size + 1) (w.alloc (.cells #[.int .i64 l, .int .i64 m] 24)) w1 := (hb.alloc (by omega) _).grown hgrow1 (by simp; omega) (fun k e => (hown.lt k e).1)
      have HO := Lib.hid hown1
      have HB := Lib.hid hb1
      clear hown hown1 hgrow1 hb hb1 c0 c1
      go_wp2_with fail
      go_roundw
      case rel => exact ⟨pre ++ [n], 2 * n, rfl, HS.out.step HP.out hn, by simpa using HO.out, HB.out⟩
      case measure => show (32768 - (2 * n)).toNat < (32768 - n).toNat; omega
    · go_wp2_with (at_builtin; refine wpList_append_own _ rfl (.tmp 17) (.tmp 20) 34 rfl (w.heap.size + 1) 3 i0 (.int .i64 0) 1 8 Try.underlying34 hi hz0 hz1 hz2 rfl (by decide) u3 pre.length _ rfl (hown.alloc _) ⟨wr.heap.size, 0, none⟩ 1 1 [.int .i64 m] rfl rfl (cell_one_new _ _ _) ?c2 ?c3 ?c4 ?c5 ?_)
      case c2 => first | rfl | (simp [Value.oneCell'])
      case c3 => unfold maxLen; omega
      case c4 => omega
      case c5 => first | omega | (simp; omega)
      intro v' w1 hown1 hgrow1 _
      have hb1 : Below (w.heap.size + 1) (w.alloc (.cells #[.int .i64 l, .int .i64 m] 24)) w1 := (hb.alloc (by omega) _).grown hgrow1 (by simp; omega) (fun k e => (hown.lt k e).1)
      have HO := Lib.hid hown1
      have HB := Lib.hid hb1
      clear hown hown1 hgrow1 hb hb1 c0 c1
      go_wp2_with fail
      go_ret
      have hd := HS.out.done (show ¬ n < m by omega)
      refine ⟨v', rfl, ?_, ((Below.refl w.heap.size w).alloc (Nat.le_refl _) _).trans (HB.out.mono (by omega))⟩
      rw [← hd]
      simpa using HO.out

/-! ### Grown -/
theorem ret_ib {x y : Int} {b c : Bool} (h1 : x = y) (h2 : b = c) : Ending.returned (.tuple #[.int .i64 x, .bool b]) = Ending.returned (.tuple #[.int .i64 y, .bool c]) := by rw [h1, h2]
set_option maxHeartbeats 800000 in
theorem refGrown_not (l m h v u : Int) (hp : okP l m = false) (w : World) :
    Calls Try.prog 14 #[.agg #[.int .i64 l, .int .i64 m], .int .i64 h, .int .i64 v, .int .i64 u] w fun e w' => e = .returned (.tuple #[.int .i64 0, .bool false]) ∧ Below w.heap.size w w' := by
  go_enter Try.func14, Try.ntmps14
  go_wp2_with (go_at_call 16; refine (refRight_any _ _ _).mono ?_; rintro e w' ⟨rfl, rfl⟩)
  go_ret2
  exact ⟨rfl, ((Below.refl _ _).alloc (Nat.le_refl _) _).alloc (by simp) _⟩
set_option maxHeartbeats 800000 in
theorem refGrown_no (l m h v u : Int) (hp : okP l m = true) (hc : h < 0 ∨ v < 0 ∨ u < 0 ∨ m < v + u) (w : World) :
    Calls Try.prog 14 #[.agg #[.int .i64 l, .int .i64 m], .int .i64 h, .int .i64 v, .int .i64 u] w fun e w' => e = .returned (.tuple #[.int .i64 0, .bool false]) ∧ Below w.heap.size w w' := by
  obtain ⟨p1, p2, p3⟩ := (okP_iff _ _).1 hp
  go_enter Try.func14, Try.ntmps14
  go_wp2_with (go_at_call 16; refine (refRight_any _ _ _).mono ?_; rintro e w' ⟨rfl, rfl⟩)
  all_goals (go_ret2; exact ⟨rfl, ((Below.refl _ _).alloc (Nat.le_refl _) _).alloc (by simp) _⟩)
theorem below_drews {B : Nat} {a b : World} (n : Nat) (h : Below B a b) : Below B a (b.drewN n) := ⟨h.os, h.tape, h.output, h.size, h.block⟩
theorem sizesF_few : ∀ (f : Nat) (n m : Int), (sizesF f n m).length ≤ f + 1
  | 0, n, m => by simp [sizesF]
  | f + 1, n, m => by
    unfold sizesF; split
    · have := sizesF_few f (2 * n) m; simp; omega
    · simp
theorem firstGe_at {t : Int} {xs : List Int} {k : Nat} (hk : k < xs.length) : firstGe t (xs.drop k) = if t ≤ xs[k] then xs[k] else firstGe t (xs.drop (k + 1)) := by
  rw [List.drop_eq_getElem_cons hk, firstGe_cons]
/-- Where a search through the sizes stands: at place k, nothing ahead has room, something from k on has. -/
def SeekAt (t : Int) (xs : List Int) (k : Nat) : Prop := k < xs.length ∧ firstGe t (xs.drop k) = firstGe t xs ∧ ∃ x ∈ xs.drop k, t ≤ x
theorem SeekAt.start {t : Int} {xs : List Int} (h : ∃ x ∈ xs, t ≤ x) : SeekAt t xs 0 := by
  obtain ⟨x, hx, ht⟩ := h
  exact ⟨by cases xs <;> simp at hx ⊢, by simp, x, by simpa using hx, ht⟩
theorem SeekAt.next {t : Int} {xs : List Int} {k : Nat} (h : SeekAt t xs k) (hn : ¬ t ≤ xs[k]'h.1) : SeekAt t xs (k + 1) := by
  obtain ⟨hk, hf, x, hx, ht⟩ := h
  rw [firstGe_at hk, if_neg hn] at hf
  rw [List.drop_eq_getElem_cons hk] at hx
  have hx' : x ∈ xs.drop (k + 1) := by
    rcases List.mem_cons.1 hx with rfl | hx
    · exact absurd ht hn
    · exact hx
  refine ⟨?_, hf, x, hx', ht⟩
  rcases Nat.lt_or_ge (k + 1) xs.length with h1 | h1
  · exact h1
  · rw [List.drop_eq_nil_of_le h1] at hx'; cases hx'
theorem SeekAt.found {t : Int} {xs : List Int} {k : Nat} (h : SeekAt t xs k) (hn : t ≤ xs[k]'h.1) : xs[k]'h.1 = firstGe t xs := by
  obtain ⟨hk, hf, _⟩ := h
  rw [firstGe_at hk, if_pos hn] at hf; exact hf
set_option maxHeartbeats 800000 in
theorem refGrown_yes (l m h v u : Int) (hp : okP l m = true) (g1 : 0 ≤ h) (g2 : 0 ≤ v) (g3 : 0 ≤ u) (g4 : v + u ≤ m) (w : World) :
    Calls Try.prog 14 #[.agg #[.int .i64 l, .int .i64 m], .int .i64 h, .int .i64 v, .int .i64 u] w fun e w' => e = .returned (.tuple #[.int .i64 (firstGe (tgt m h v u) (sizesL l m)), .bool true]) ∧ Below w.heap.size w w' := by
  obtain ⟨p1, p2, p3⟩ := (okP_iff _ _).1 hp
  have hlast : ∃ x ∈ sizesL l m, tgt m h v u ≤ x := ⟨m, sizesF_last 12 l m, tgt_le g4⟩
  have hall : ∀ (k : Nat) (hk : k < (sizesL l m).length), l ≤ (sizesL l m)[k] ∧ (sizesL l m)[k] ≤ m := fun k hk => sizesF_ge 12 l m (by omega) p2 _ (List.getElem_mem hk)
  have HST := Lib.hid (SeekAt.start hlast)
  have HALL := Lib.hid hall
  clear hlast hall
  go_enter Try.func14, Try.ntmps14
  go_wp2_with (go_at_call 16; refine (refRight_any _ _ _).mono ?_; rintro e w' ⟨rfl, rfl⟩)
  refine (sizes_any l m hp _).mono ?_
  rintro e w1 ⟨sv, rfl, hrow, hb⟩
  obtain ⟨g, cap, hsv⟩ : ∃ g cap, sv = .slice (some ⟨g, 0, none⟩) (sizesL l m).length cap := by
    rcases hrow.2 with ⟨_, h0⟩ | ⟨g, cap, cur, hsv, _⟩
    · have := HST.out.1; omega
    · exact ⟨g, cap, hsv⟩
  subst hsv
  have hcells := hrow.cells (g := g) rfl
  have c0 : w1.cell? ⟨w.heap.size, 1, none⟩ = some (.int .i64 m) := by rw [hb.cell (by simp; omega)]; simp
  have hb0 : Below w.heap.size w w1 := (((Below.refl w.heap.size w).alloc (Nat.le_refl _) _).alloc (by simp) _).trans (hb.mono (by simp; omega))
  have HB := Lib.hid hb0
  have HC := Lib.hid hcells
  clear hrow hb hcells hb0
  have hlen : (sizesL l m).length ≤ 13 := sizesF_few 12 l m
  generalize hxs : sizesL l m = xs at *
  have HXS := Lib.hid hxs
  clear hxs hp
  go_wp2_with fail
  go_loopw [11] (fun i wr => ∃ k : Nat, i = .int .i64 k ∧ SeekAt (tgt m h v u) xs k ∧ Below w1.heap.size w1 wr) (fun i _ => xs.length - (intOf i).toNat)
  case atStart => exact ⟨0, rfl, HST.out, Below.refl _ _⟩
  case round =>
    obtain ⟨k, rfl, hs, hbr⟩ := hrel
    have hk := hs.1
    obtain ⟨x, hx⟩ : ∃ x, xs[k]'hk = x := ⟨_, rfl⟩
    have hcell : wr.cell? ⟨g, k, none⟩ = some (.int .i64 x) := by
      have h1 := HC.out k (.int .i64 x) (by rw [List.getElem?_map, List.getElem?_eq_getElem hk, hx]; rfl)
      have h2 : ((⟨g, 0, none⟩ : Addr).add k) = ⟨g, k, none⟩ := by simp [Addr.add]; omega
      rw [h2] at h1
      rw [hbr.cell (World.block_lt_of_cell? w1 _ h1)]; exact h1
    have hbd := HALL.out k hk
    rw [hx] at hbd
    obtain ⟨b1, b2⟩ := hbd
    have cm : wr.cell? ⟨w.heap.size, 1, none⟩ = some (.int .i64 m) := (hbr.cell (World.block_lt_of_cell? w1 _ c0)).trans c0
    have HX := Lib.hid hx
    have HS := Lib.hid hs
    have HR := Lib.hid hbr
    clear hx hs hbr c0
    by_cases t1 : v + u ≤ x
    · by_cases t2 : min h m ≤ x
      · by_cases t3 : m < h
        · go_wp2_with fail
          go_quiet (fail)
          go_wp2_with fail
          go_ret2
          have hf : x = firstGe (tgt m h v u) xs := HX.out.symm.trans (HS.out.found (by rw [HX.out]; unfold tgt; omega))
          exact ⟨ret_ib (by rw [HXS.out]; exact hf) rfl, HB.out.trans (below_drews nq (HR.out.mono HB.out.size))⟩
        · go_wp2_with fail
          go_quiet (fail)
          go_wp2_with fail
          go_ret2
          have hf : x = firstGe (tgt m h v u) xs := HX.out.symm.trans (HS.out.found (by rw [HX.out]; unfold tgt; omega))
          exact ⟨ret_ib (by rw [HXS.out]; exact hf) rfl, HB.out.trans (below_drews nq (HR.out.mono HB.out.size))⟩
      · go_wp2_with fail
        go_quiet (fail)
        go_wp2_with fail
        exact ⟨⟨k + 1, by go_num, HS.out.next (by rw [HX.out]; unfold tgt; omega), below_drews nq HR.out⟩, by show xs.length - ((k : Int) + 1).toNat < xs.length - (k : Int).toNat; omega⟩
    · have t1' : decide (v + u ≤ x) = false := by simpa using t1
      go_wp2_with fail
      go_quiet (fail)
      go_wp2_with fail
      exact ⟨⟨k + 1, by go_num, HS.out.next (by rw [HX.out]; unfold tgt; omega), below_drews nq HR.out⟩, by show xs.length - ((k : Int) + 1).toNat < xs.length - (k : Int).toNat; omega⟩
theorem refGrown_any (l m h v u : Int) (w : World) :
    Calls Try.prog 14 #[.agg #[.int .i64 l, .int .i64 m], .int .i64 h, .int .i64 v, .int .i64 u] w fun e w' => e = .returned (.tuple #[.int .i64 (grown l m h v u), .bool (okG l m h v u)]) ∧ Below w.heap.size w w' := by
  by_cases hc : okP l m = true ∧ 0 ≤ h ∧ 0 ≤ v ∧ 0 ≤ u ∧ v + u ≤ m
  · have H := (okG_iff l m h v u).2 hc
    rw [H, grown_yes H]
    exact refGrown_yes l m h v u hc.1 hc.2.1 hc.2.2.1 hc.2.2.2.1 hc.2.2.2.2 w
  · have H := okG_no l m h v u hc
    rw [H, grown_no H]
    cases hp : okP l m
    · exact refGrown_not l m h v u hp w
    · exact refGrown_no l m h v u hp (by rw [hp] at hc; simp at hc; omega) w
end Go.Proofs.Ytfchkgihiclkkaa
