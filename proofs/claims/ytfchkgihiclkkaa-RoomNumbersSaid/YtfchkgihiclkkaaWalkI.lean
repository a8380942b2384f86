/-
  The walks of room.Plan's iterator over its sizes and of room.Grown, which ranges over it.
-/
import Derived.RangeFuncFrom
import Derived.RangeFuncNested
import Derived.RangeFuncBound
import Derived.RangeFuncCalls
import Derived.RangeFuncLeaves
import Derived.Shelf.Abstract
import Derived.WalkKit
import Derived.WalkSpells
import Derived.WalkLawsBesides
import Derived.OwnWalkIn
import Derived.TacticsInMore
import Derived.LoopNIn
import Derived.LoopIn
import Derived.Test.YtfchkgihiclkkaaWalkG
namespace Go.Proofs.Ytfchkgihiclkkaa
open Go.RowKit Go.Shelf

attribute [local go_sem] Oper.semAt_some

theorem SizesAt.lt {l m n : Int} {pre : List Int} (h : SizesAt l m pre n) : pre.length < (sizesL l m).length := by
  rw [← h.split, List.length_append]
  have : 0 < (sizesF (12 - pre.length) n m).length := by
    cases 12 - pre.length with
    | zero => simp [sizesF]
    | succ f => unfold sizesF; split <;> simp
  omega
theorem SizesAt.prefix_next {l m n : Int} {pre : List Int} (h : SizesAt l m pre n) (hp : okP l m = true) (hn : n < m) : pre ++ [n] <+: sizesL l m :=
  ⟨_, (h.step hp hn).split⟩

set_option maxRecDepth 100000 in
set_option maxHeartbeats 1000000 in
theorem sizes1_in (F : Fence) (n : Nat) (h41 : F.fn 41) (hro : F.round = none) (hn : 1 ≤ n) (l Bn n₀ : Nat) (least most : Int) (hp : okP least most = true) (hBn : Bn < n₀) (J Jx : List Int → World → Prop)
    (hY : ∀ pre x W, J pre W → pre.length < (sizesL least most).length → YieldAt F (n - 1) Try.prog l #[.int .i64 x] W fun e W' =>
      (e = .returned (.bool true) ∧ J (pre ++ [x]) W' ∧ Below n₀ W W') ∨ (e = .returned (.bool false) ∧ Jx (pre ++ [x]) W'))
    (W : World) (hc0 : W.cell? ⟨Bn, 0, none⟩ = some (.int .i64 least)) (hc1 : W.cell? ⟨Bn, 1, none⟩ = some (.int .i64 most)) (h0 : J [] W) :
    CallsIn F n Try.prog 41 #[.func (.yield l) #[] #[], .pointer (some ⟨Bn, 0, none⟩)] W fun e W' => (∃ v, e = .returned v) ∧
      ((∃ ys, ys = sizesL least most ∧ J ys W') ∨ (∃ pre, pre <+: sizesL least most ∧ Jx pre W')) := by
  obtain ⟨p1, p2, p3⟩ := (okP_iff _ _).1 hp
  refine callsIn_of_wp Try.func41 rfl h41 ?_ hro
  simp only [Try.ntmps41, List.size_toArray, List.length_cons, List.length_nil, Nat.reduceAdd, Nat.reduceSub, Array.replicate_succ, Array.replicate_zero, List.push_toArray, List.append_toArray, List.nil_append, List.cons_append]
  gi_wp2
  gi_loopw [3] (fun i wr => ∃ (pre : List Int) (k : Int), i = .int .i64 k ∧ SizesAt least most pre k ∧ wr.cell? ⟨Bn, 1, none⟩ = some (.int .i64 most) ∧ J pre wr)
    (fun i _ => (32768 - intOf i).toNat)
  case atStart =>
    exact ⟨[], least, rfl, SizesAt.start hp, hc1, h0⟩
  case round =>
    obtain ⟨pre, k, rfl, hs, hc, hJ⟩ := hrel
    have hsm := hs.small
    have hbig : 16 ≤ k := by
      have h1 := hs.big
      have h2 : 1 ≤ 2 ^ pre.length := Nat.one_le_two_pow
      omega
    by_cases hk : k < most
    · obtain ⟨fn, tmps, assign, body, hy, hR⟩ := hY pre k wr hJ hs.lt
      gi_wp2
      refine hR.mono ?_
      rintro e W3 (⟨rfl, hJ3, hk3⟩ | ⟨rfl, hJx3⟩)
      · have hc3 : W3.cell? ⟨Bn, 1, none⟩ = some (.int .i64 most) := (hk3.cell (p := ⟨Bn, 1, none⟩) hBn).trans hc
        gi_wp2
        go_roundw
        case rel => exact ⟨pre ++ [k], 2 * k, by rw [Int.mul_comm], hs.step hp hk, hc3, hJ3⟩
        case measure => show (32768 - (k * 2)).toNat < (32768 - k).toNat; omega
      · gi_wp2
        refine bodyPost_ret (results_none rfl _ _ _) rfl ?_
        exact ⟨⟨_, rfl⟩, .inr ⟨pre ++ [k], hs.prefix_next hp hk, hJx3⟩⟩
    · obtain ⟨fn, tmps, assign, body, hy, hR⟩ := hY pre most wr hJ hs.lt
      gi_wp2
      refine hR.mono ?_
      rintro e W3 (⟨rfl, hJ3, hk3⟩ | ⟨rfl, hJx3⟩)
      · gi_wp2
        go_end0
        exact ⟨⟨_, rfl⟩, .inl ⟨_, hs.done (by omega), hJ3⟩⟩
      · gi_wp2
        go_end0
        exact ⟨⟨_, rfl⟩, .inr ⟨pre ++ [most], ⟨[], by rw [List.append_nil]; exact hs.done (by omega)⟩, hJx3⟩⟩
theorem sizes_stops (F : Fence) (n : Nat) (h41 : F.fn 41) (hro : F.round = none) (hn : 1 ≤ n) (Bn n₀ : Nat) (least most : Int) (hp : okP least most = true) (w : World) (hBn : Bn < n₀) (hn₀ : n₀ ≤ w.heap.size)
    (hc0 : w.cell? ⟨Bn, 0, none⟩ = some (.int .i64 least)) (hc1 : w.cell? ⟨Bn, 1, none⟩ = some (.int .i64 most)) :
    SeqStopsK F n Try.prog 41 #[.pointer (some ⟨Bn, 0, none⟩)] (fun x : Int => #[Value.int .i64 x]) (Below n₀) (fun ys => ys = sizesL least most) (fun pre => pre <+: sizesL least most) (sizesL least most).length w := fun l J Jx W hW _ _ hY h0 =>
  sizes1_in F n h41 hro hn l Bn n₀ least most hp hBn J Jx hY W ((hW.cell (p := ⟨Bn, 0, none⟩) (by show Bn < _; omega)).trans hc0) ((hW.cell (p := ⟨Bn, 1, none⟩) (by show Bn < _; omega)).trans hc1) h0
/-- sizes(): the plan is boxed; the function value captures the box. -/
theorem sizesFn_any (l m : Int) (w : World) :
    Calls Try.prog 37 #[.agg #[.int .i64 l, .int .i64 m]] w fun e w' => e = .returned (.func (.func 41) #[] #[.pointer (some ⟨w.heap.size, 0, none⟩)]) ∧ w' = w.alloc (.cells #[.int .i64 l, .int .i64 m] 23) := by
  go_enter Try.func37, Try.ntmps37
  go_wp2
  go_ret
  exact ⟨rfl, rfl⟩

theorem firstGe_skip {t : Int} : ∀ (pre l : List Int), (∀ y ∈ pre, y < t) → firstGe t (pre ++ l) = firstGe t l
  | [], _, _ => rfl
  | y :: pre, l, h => by
    have h1 := h y (by simp)
    rw [List.cons_append, firstGe_cons, if_neg (by omega)]
    exact firstGe_skip pre l (fun z hz => h z (by simp [hz]))
theorem firstGe_prefix {t x : Int} {pre xs : List Int} (hp : pre ++ [x] <+: xs) (h : ∀ y ∈ pre, y < t) (hx : t ≤ x) : firstGe t xs = x := by
  obtain ⟨r, rfl⟩ := hp
  rw [List.append_assoc, firstGe_skip _ _ h, List.singleton_append, firstGe_cons, if_pos hx]
/-- The boxes of Grown's own, from block B on, while its loop goes on; behind its return. -/
structure GrownCells (l m h v u : Int) (B : Nat) (W : World) : Prop where
  cm : W.cell? ⟨B, 1, none⟩ = some (.int .i64 m)
  ch : W.cell? ⟨B + 1, 0, none⟩ = some (.int .i64 h)
  cv : W.cell? ⟨B + 1 + 1, 0, none⟩ = some (.int .i64 v)
  cu : W.cell? ⟨B + 1 + 1 + 1, 0, none⟩ = some (.int .i64 u)
  cr : W.cell? ⟨B + 1 + 1 + 1 + 1, 0, none⟩ = some (.int .i64 0)
  co : W.cell? ⟨B + 1 + 1 + 1 + 1 + 1, 0, none⟩ = some (.bool false)
  fr : W.frozen? ⟨B + 1 + 1 + 1 + 1, 0, none⟩ = false
  fo : W.frozen? ⟨B + 1 + 1 + 1 + 1 + 1, 0, none⟩ = false
structure GrownDone (x : Int) (B : Nat) (W : World) : Prop where
  cr : W.cell? ⟨B + 1 + 1 + 1 + 1, 0, none⟩ = some (.int .i64 x)
  co : W.cell? ⟨B + 1 + 1 + 1 + 1 + 1, 0, none⟩ = some (.bool true)
theorem ck {W : World} {a : Addr} {x : Value} (o : Obj) (hc : W.cell? a = some x) : (W.alloc o).cell? a = some x := cell_kept hc (World.grownBy_alloc W o none) (fun r e => by cases e)
theorem fk {W : World} {a : Addr} {x : Value} (o : Obj) (hc : W.cell? a = some x) (hf : W.frozen? a = false) : (W.alloc o).frozen? a = false := (frozen_kept hc (World.grownBy_alloc W o none) (fun r e => by cases e)).trans hf
theorem cn (W : World) (c : Array Value) (t : TypeId) (i : Nat) (x : Value) (hx : c[i]? = some x) {B : Nat} (hB : W.heap.size = B) : (W.alloc (.cells c t)).cell? ⟨B, i, none⟩ = some x := by
  subst hB; exact (World.cell?_alloc_new W c t i).trans hx
theorem fn (W : World) (c : Array Value) (t : TypeId) (i : Nat) {B : Nat} (hB : W.heap.size = B) : (W.alloc (.cells c t)).frozen? ⟨B, i, none⟩ = false := by
  subst hB; exact World.frozen?_alloc_new W c t i
set_option maxRecDepth 100000 in
theorem grown_start (l m h v u : Int) (w : World) :
    ((((((((w.alloc (.cells #[.int .i64 l, .int .i64 m] 23)).alloc (.cells #[.int .i64 h] 3)).alloc (.cells #[.int .i64 v] 3)).alloc (.cells #[.int .i64 u] 3)).alloc (.cells #[.int .i64 0] 3)).alloc (.cells #[.bool false] 4)).alloc (.cells #[.int .i64 l, .int .i64 m] 23)).alloc (.cells #[.int .i64 l, .int .i64 m] 23)).heap.size = w.heap.size + 8 ∧ Below w.heap.size w ((((((((w.alloc (.cells #[.int .i64 l, .int .i64 m] 23)).alloc (.cells #[.int .i64 h] 3)).alloc (.cells #[.int .i64 v] 3)).alloc (.cells #[.int .i64 u] 3)).alloc (.cells #[.int .i64 0] 3)).alloc (.cells #[.bool false] 4)).alloc (.cells #[.int .i64 l, .int .i64 m] 23)).alloc (.cells #[.int .i64 l, .int .i64 m] 23)) ∧ GrownCells l m h v u w.heap.size ((((((((w.alloc (.cells #[.int .i64 l, .int .i64 m] 23)).alloc (.cells #[.int .i64 h] 3)).alloc (.cells #[.int .i64 v] 3)).alloc (.cells #[.int .i64 u] 3)).alloc (.cells #[.int .i64 0] 3)).alloc (.cells #[.bool false] 4)).alloc (.cells #[.int .i64 l, .int .i64 m] 23)).alloc (.cells #[.int .i64 l, .int .i64 m] 23)) ∧
    ((((((((w.alloc (.cells #[.int .i64 l, .int .i64 m] 23)).alloc (.cells #[.int .i64 h] 3)).alloc (.cells #[.int .i64 v] 3)).alloc (.cells #[.int .i64 u] 3)).alloc (.cells #[.int .i64 0] 3)).alloc (.cells #[.bool false] 4)).alloc (.cells #[.int .i64 l, .int .i64 m] 23)).alloc (.cells #[.int .i64 l, .int .i64 m] 23)).cell? ⟨w.heap.size + 1 + 1 + 1 + 1 + 1 + 1 + 1, 0, none⟩ = some (.int .i64 l) ∧ ((((((((w.alloc (.cells #[.int .i64 l, .int .i64 m] 23)).alloc (.cells #[.int .i64 h] 3)).alloc (.cells #[.int .i64 v] 3)).alloc (.cells #[.int .i64 u] 3)).alloc (.cells #[.int .i64 0] 3)).alloc (.cells #[.bool false] 4)).alloc (.cells #[.int .i64 l, .int .i64 m] 23)).alloc (.cells #[.int .i64 l, .int .i64 m] 23)).cell? ⟨w.heap.size + 1 + 1 + 1 + 1 + 1 + 1 + 1, 1, none⟩ = some (.int .i64 m) := by
  refine ⟨by simp, ?_, ⟨?_, ?_, ?_, ?_, ?_, ?_, ?_, ?_⟩, ?_, ?_⟩
  · exact (((((((((Below.refl _ _).alloc (Nat.le_refl _) _).alloc (by simp) _).alloc (by simp; omega) _).alloc (by simp; omega) _).alloc (by simp; omega) _).alloc (by simp; omega) _).alloc (by simp; omega) _).alloc (by simp; omega) _)
  · exact ck _ (ck _ (ck _ (ck _ (ck _ (ck _ (ck _ (cn w _ _ 1 _ rfl rfl)))))))
  · exact ck _ (ck _ (ck _ (ck _ (ck _ (ck _ (cn (w.alloc _) _ _ 0 _ rfl (by simp)))))))
  · exact ck _ (ck _ (ck _ (ck _ (ck _ (cn ((w.alloc _).alloc _) _ _ 0 _ rfl (by simp))))))
  · exact ck _ (ck _ (ck _ (ck _ (cn (((w.alloc _).alloc _).alloc _) _ _ 0 _ rfl (by simp)))))
  · exact ck _ (ck _ (ck _ (cn ((((w.alloc _).alloc _).alloc _).alloc _) _ _ 0 _ rfl (by simp))))
  · exact ck _ (ck _ (cn (((((w.alloc _).alloc _).alloc _).alloc _).alloc _) _ _ 0 _ rfl (by simp)))
  · have c4 := cn ((((w.alloc (.cells #[.int .i64 l, .int .i64 m] 23)).alloc (.cells #[.int .i64 h] 3)).alloc (.cells #[.int .i64 v] 3)).alloc (.cells #[.int .i64 u] 3)) #[.int .i64 0] 3 0 _ rfl (B := w.heap.size + 1 + 1 + 1 + 1) (by simp)
    have f4 := fn ((((w.alloc (.cells #[.int .i64 l, .int .i64 m] 23)).alloc (.cells #[.int .i64 h] 3)).alloc (.cells #[.int .i64 v] 3)).alloc (.cells #[.int .i64 u] 3)) #[.int .i64 0] 3 0 (B := w.heap.size + 1 + 1 + 1 + 1) (by simp)
    exact fk _ (ck _ (ck _ c4)) (fk _ (ck _ c4) (fk _ c4 f4))
  · have c5 := cn (((((w.alloc (.cells #[.int .i64 l, .int .i64 m] 23)).alloc (.cells #[.int .i64 h] 3)).alloc (.cells #[.int .i64 v] 3)).alloc (.cells #[.int .i64 u] 3)).alloc (.cells #[.int .i64 0] 3)) #[.bool false] 4 0 _ rfl (B := w.heap.size + 1 + 1 + 1 + 1 + 1) (by simp)
    have f5 := fn (((((w.alloc (.cells #[.int .i64 l, .int .i64 m] 23)).alloc (.cells #[.int .i64 h] 3)).alloc (.cells #[.int .i64 v] 3)).alloc (.cells #[.int .i64 u] 3)).alloc (.cells #[.int .i64 0] 3)) #[.bool false] 4 0 (B := w.heap.size + 1 + 1 + 1 + 1 + 1) (by simp)
    exact fk _ (ck _ c5) (fk _ c5 f5)
  · exact cn _ _ _ 0 _ rfl (by simp)
  · exact cn _ _ _ 1 _ rfl (by simp)
set_option maxRecDepth 100000 in
set_option maxHeartbeats 2000000 in
theorem grown_pos (l m h v u : Int) (hp : okP l m = true) (g1 : 0 ≤ h) (g2 : 0 ≤ v) (g3 : 0 ≤ u) (g4 : v + u ≤ m) (w : World) :
    Calls Try.prog 13 #[.agg #[.int .i64 l, .int .i64 m], .int .i64 h, .int .i64 v, .int .i64 u] w fun e w' => e = .returned (.tuple #[.int .i64 (firstGe (tgt m h v u) (sizesL l m)), .bool true]) ∧ Below w.heap.size w w' := by
  obtain ⟨p1, p2, p3⟩ := (okP_iff _ _).1 hp
  obtain ⟨q1, hq1, b1⟩ : ∃ q1 : Int, (if v < h then v else h) = q1 ∧ 0 ≤ q1 := ⟨_, rfl, by split <;> omega⟩
  obtain ⟨q2, hq2, b2⟩ : ∃ q2 : Int, (if u < q1 then u else q1) = q2 ∧ 0 ≤ q2 := ⟨_, rfl, by split <;> omega⟩
  refine (callsIn_wide (n := 3)).1 ?_
  refine callsIn_of_wp_marks Try.func13 rfl trivial ?_ rfl
  simp only [Try.ntmps13, List.size_toArray, List.length_cons, List.length_nil, Nat.reduceAdd, Nat.reduceSub, Array.replicate_succ, Array.replicate_zero, List.push_toArray, List.append_toArray, List.nil_append, List.cons_append]
  gi_wp2_with fail
  refine ⟨trivial, (callsIn_wide.2 (right_any _ _ _)).mono ?_⟩
  rintro e w' ⟨rfl, rfl⟩
  gi_wp2_with fail
  refine ⟨trivial, (callsIn_wide.2 (sizesFn_any _ _ _)).mono ?_⟩
  rintro e w' ⟨rfl, rfl⟩
  gi_wp2_with fail
  obtain ⟨hsz, hB0, hI0, hc0, hc1⟩ := grown_start l m h v u w
  generalize ((((((((w.alloc (.cells #[.int .i64 l, .int .i64 m] 23)).alloc (.cells #[.int .i64 h] 3)).alloc (.cells #[.int .i64 v] 3)).alloc (.cells #[.int .i64 u] 3)).alloc (.cells #[.int .i64 0] 3)).alloc (.cells #[.bool false] 4)).alloc (.cells #[.int .i64 l, .int .i64 m] 23)).alloc (.cells #[.int .i64 l, .int .i64 m] 23)) = W0 at *
  have hlast : tgt m h v u ≤ m := tgt_le g4
  refine wpIn_rangeFunc_ownF rfl (by omega) (gf := 41) (lb := #[.pointer (some ⟨w.heap.size + 1 + 1 + 1 + 1 + 1 + 1 + 1, 0, none⟩)]) rfl trivial (enters_of Try.func41 (by kernel_rfl) rfl)
    (sizes_stops Fence.wide _ trivial rfl (by omega) (w.heap.size + 1 + 1 + 1 + 1 + 1 + 1 + 1) W0.heap.size l m hp W0 (by omega) (Nat.le_refl _) hc0 hc1) ?kt ?kb (Below.refl _ _) (fun _ => rfl)
    (fun pre W => ((∀ y ∈ pre, y < tgt m h v u) ∧ GrownCells l m h v u w.heap.size W) ∧ Below w.heap.size w W)
    (fun c pre W => (c = .ret ∧ ∃ pre' x, pre = pre' ++ [x] ∧ (∀ y ∈ pre', y < tgt m h v u) ∧ tgt m h v u ≤ x ∧ GrownDone x w.heap.size W) ∧ Below w.heap.size w W)
    ?hI ?hIx ?h0 ?a1 ?assign ?body ?done ?stop
  case kt => exact belowK_t
  case kb => exact belowK_b (Nat.le_refl _)
  case hI =>
    refine OwnFrom.and (Own.from (fun s A B row hs hg hr => ⟨hs.1, ?_⟩) _) (ownFrom_below (Nat.le_refl _) (by omega))
    obtain ⟨_, hc⟩ := hs
    exact ⟨cell_kept hc.cm hg hr, cell_kept hc.ch hg hr, cell_kept hc.cv hg hr, cell_kept hc.cu hg hr, cell_kept hc.cr hg hr, cell_kept hc.co hg hr, (frozen_kept hc.cr hg hr).trans hc.fr, (frozen_kept hc.co hg hr).trans hc.fo⟩
  case hIx =>
    intro c
    refine OwnFrom.and (Own.from (fun s A B row hs hg hr => ⟨hs.1, ?_⟩) _) (ownFrom_below (Nat.le_refl _) (by omega))
    obtain ⟨_, pre', x, e1, e2, e3, hc⟩ := hs
    exact ⟨pre', x, e1, e2, e3, cell_kept hc.cr hg hr, cell_kept hc.co hg hr⟩
  case h0 => exact ⟨⟨by simp, hI0⟩, hB0⟩
  case assign =>
    intro ln x W K hK
    gi_wp2
    exact hK
  case body =>
    rintro ln pre x W ⟨⟨hpre, hc⟩, hB⟩ _
    have GC := Lib.hid hc
    obtain ⟨cm, ch, cv, cu, cr, co, fr, fo⟩ := hc
    obtain ⟨q3, hq3, b3⟩ : ∃ q3 : Int, (if m < h then m else h) = q3 ∧ q3 = min h m := ⟨_, rfl, by split <;> omega⟩
    obtain ⟨q4, hq4, b4⟩ : ∃ q4 : Int, (if v + u < q3 then q3 else v + u) = q4 ∧ q4 = tgt m h v u := ⟨_, rfl, by unfold tgt; split <;> omega⟩
    have B4 := Lib.hid b4
    have HP := Lib.hid hpre
    have HB := Lib.hid hB
    clear b3 b4 hpre hB hq1 hq2
    by_cases t1 : q4 ≤ x
    · gi_wp2
      refine ⟨(KeepsOthers.setCell _ _ _).trans (KeepsOthers.setCell _ _ _), ⟨rfl, pre, x, rfl, HP.out, by rw [← B4.out]; exact t1, ?_, ?_⟩, ?_⟩
      · rw [World.cell?_setCell_other _ _ _ _ (by intro e; injection e with e; omega)]
        exact World.cell?_setCell_same' _ _ _ (by rw [GC.out.cr]; rfl)
      · refine World.cell?_setCell_same' _ _ _ ?_
        rw [World.cell?_setCell_other _ _ _ _ (by intro e; injection e with e; omega), GC.out.co]; rfl
      · exact (HB.out.setCell (p := ⟨w.heap.size + 1 + 1 + 1 + 1, 0, none⟩) (by simp; omega) _).setCell (p := ⟨w.heap.size + 1 + 1 + 1 + 1 + 1, 0, none⟩) (by simp; omega) _
    · gi_wp2
      have hlt : x < tgt m h v u := by rw [← B4.out]; omega
      exact ⟨KeepsOthers.refl _, Below.refl _ _, ⟨fun y hy => (List.mem_append.1 hy).elim (HP.out y) (fun e => by obtain rfl := List.mem_singleton.1 e; exact hlt), GC.out⟩, HB.out⟩
  case done =>
    rintro D ys W _ rfl ⟨⟨hall, _⟩, _⟩ _
    have := hall m (sizesF_last 12 l m)
    omega
  case stop =>
    rintro D c pre W hD hpre ⟨⟨rfl, pre', x, rfl, e2, e3, hc⟩, hB⟩ hK
    gi_wp2
    refine ⟨by simp, .inl ⟨_, _, rfl, run_takeDeferred hK, ?_⟩⟩
    have hcr := cell_kept hc.cr (grownBy_putObj' _ D (.deferred none)) (fun r e => by cases e; exact ⟨_, hK, rfl⟩)
    have hco := cell_kept hc.co (grownBy_putObj' _ D (.deferred none)) (fun r e => by cases e; exact ⟨_, hK, rfl⟩)
    refine ⟨.tuple #[.int .i64 x, .bool true], ?_, ret_ib (firstGe_prefix hpre e2 e3).symm rfl, hB.trans (belowK_b (w := w) (Nat.le_refl _) W D _ _ (by omega) hK rfl rfl)⟩
    simp [results, Try.f13, go_sem, hcr, hco]
set_option maxRecDepth 100000 in
set_option maxHeartbeats 400000 in
theorem grown_bad (l m h v u : Int) (hp : okP l m = false) (w : World) :
    Calls Try.prog 13 #[.agg #[.int .i64 l, .int .i64 m], .int .i64 h, .int .i64 v, .int .i64 u] w fun e w' => e = .returned (.tuple #[.int .i64 0, .bool false]) ∧ Below w.heap.size w w' := by
  go_enter Try.func13, Try.ntmps13
  go_wp2_with fail
  refine (right_any _ _ _).mono ?_
  rintro e w' ⟨rfl, rfl⟩
  go_wp2_with fail
  refine bodyPost_ret (v := .tuple #[.int .i64 0, .bool false]) (by simp [results, Try.results13, go_sem]) rfl ⟨rfl, ?_⟩
  repeat' (first | (with_reducible exact Below.refl _ _) | (with_reducible refine Below.alloc ?_ ?_ _) | (with_reducible refine Below.setCell ?_ ?_ _) | (simp; omega) | (simp; done) | omega)
set_option maxRecDepth 100000 in
set_option maxHeartbeats 400000 in
theorem grown_neg (l m h v u : Int) (hp : okP l m = true) (hc : h < 0 ∨ v < 0 ∨ u < 0 ∨ m < v + u) (w : World) :
    Calls Try.prog 13 #[.agg #[.int .i64 l, .int .i64 m], .int .i64 h, .int .i64 v, .int .i64 u] w fun e w' => e = .returned (.tuple #[.int .i64 0, .bool false]) ∧ Below w.heap.size w w' := by
  obtain ⟨p1, p2, p3⟩ := (okP_iff _ _).1 hp
  obtain ⟨q1, hq1, b1⟩ : ∃ q1 : Int, (if v < h then v else h) = q1 ∧ q1 = min v h := ⟨_, rfl, by split <;> omega⟩
  obtain ⟨q2, hq2, b2⟩ : ∃ q2 : Int, (if u < q1 then u else q1) = q2 ∧ q2 = min u q1 := ⟨_, rfl, by split <;> omega⟩
  have B1 := Lib.hid b1
  have B2 := Lib.hid b2
  have HC := Lib.hid hc
  have hor : q2 < 0 ∨ (0 ≤ q2 ∧ m < v) ∨ (0 ≤ q2 ∧ v ≤ m ∧ m - v < u) := by omega
  have hv : 0 ≤ q2 → 0 ≤ v := by omega
  clear b1 b2 hc
  go_enter Try.func13, Try.ntmps13
  go_wp2_with fail
  refine (right_any _ _ _).mono ?_
  rintro e w' ⟨rfl, rfl⟩
  rcases hor with t1 | ⟨t1, t2⟩ | ⟨t1, t2, t3⟩
  · go_wp2_with fail
    refine bodyPost_ret (v := .tuple #[.int .i64 0, .bool false]) (by simp [results, Try.results13, go_sem]) rfl ⟨rfl, ?_⟩
    repeat' (first | (with_reducible exact Below.refl _ _) | (with_reducible refine Below.alloc ?_ ?_ _) | (with_reducible refine Below.setCell ?_ ?_ _) | (simp; omega) | (simp; done) | omega)
  · go_wp2_with fail
    refine bodyPost_ret (v := .tuple #[.int .i64 0, .bool false]) (by simp [results, Try.results13, go_sem]) rfl ⟨rfl, ?_⟩
    repeat' (first | (with_reducible exact Below.refl _ _) | (with_reducible refine Below.alloc ?_ ?_ _) | (with_reducible refine Below.setCell ?_ ?_ _) | (simp; omega) | (simp; done) | omega)
  · have hv0 := hv t1
    go_wp2_with fail
    refine bodyPost_ret (v := .tuple #[.int .i64 0, .bool false]) (by simp [results, Try.results13, go_sem]) rfl ⟨rfl, ?_⟩
    repeat' (first | (with_reducible exact Below.refl _ _) | (with_reducible refine Below.alloc ?_ ?_ _) | (with_reducible refine Below.setCell ?_ ?_ _) | (simp; omega) | (simp; done) | omega)
theorem grown_any (l m h v u : Int) (w : World) :
    Calls Try.prog 13 #[.agg #[.int .i64 l, .int .i64 m], .int .i64 h, .int .i64 v, .int .i64 u] w fun e w' => e = .returned (.tuple #[.int .i64 (grown l m h v u), .bool (okG l m h v u)]) ∧ Below w.heap.size w w' := by
  by_cases hc : okP l m = true ∧ 0 ≤ h ∧ 0 ≤ v ∧ 0 ≤ u ∧ v + u ≤ m
  · have H := (okG_iff l m h v u).2 hc
    rw [H, grown_yes H]
    exact grown_pos l m h v u hc.1 hc.2.1 hc.2.2.1 hc.2.2.2.1 hc.2.2.2.2 w
  · have H := okG_no l m h v u hc
    rw [H, grown_no H]
    cases hp : okP l m
    · exact grown_bad l m h v u hp w
    · exact grown_neg l m h v u hp (by rw [hp] at hc; simp at hc; omega) w
end Go.Proofs.Ytfchkgihiclkkaa
