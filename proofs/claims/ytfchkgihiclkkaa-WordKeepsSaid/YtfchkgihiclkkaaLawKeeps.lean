/-
  The walk of WordKeeps: true at every input.
-/
import Derived.Test.YtfchkgihiclkkaaLawAtoms
import Derived.Test.YtfchkgihiclkkaaWalkR
import Derived.BigQuiet
import Derived.Deep.QuietTactic
namespace Go.Proofs.Ytfchkgihiclkkaa
open Go.RowKit Go.Maps

/-- The object at N holds the texts; the slice fv, beside it, holds them too; below N nothing has turned. -/
structure Keeps (N : Nat) (sv fv : Value) (L : List ByteArray) (W : World) : Prop where
  a : AtomsAt W N sv L
  row : W.ownsRow (N + 2) 9 1 fv L.length (L.map Value.string)
  apart : ∀ g, sv.ownBlock = some g → fv.ownBlock ≠ some g
def KeepsAt (N : Nat) (fv : Value) (L : List ByteArray) (w W : World) : Prop := (∃ sv, Keeps N sv fv L W) ∧ Below N w W
theorem KeepsAt.drew {N : Nat} {fv : Value} {L : List ByteArray} {w W : World} (h : KeepsAt N fv L w W) : KeepsAt N fv L w W.drew := by
  obtain ⟨⟨sv, hb⟩, hB⟩ := h
  exact ⟨⟨sv, hb.a.drew, hb.row, hb.apart⟩, hB.drew⟩
theorem KeepsAt.drewN {N : Nat} {fv : Value} {L : List ByteArray} {w W : World} (n : Nat) (h : KeepsAt N fv L w W) : KeepsAt N fv L w (W.drewN n) := by
  obtain ⟨⟨sv, hb⟩, hB⟩ := h
  exact ⟨⟨sv, ⟨hb.a.c0, hb.a.c1, hb.a.f1, hb.a.m.elim fun D hD => ⟨D, hD.1, hD.2⟩, hb.a.row⟩, hb.row, hb.apart⟩, ⟨hB.os, hB.tape, hB.output, hB.size, hB.block⟩⟩
/-- The object has taken a text, the slice not yet. -/
def KeepsNew (N : Nat) (fv : Value) (L L' : List ByteArray) (w W : World) : Prop :=
  (∃ sv, AtomsAt W N sv L' ∧ W.ownsRow (N + 2) 9 1 fv L.length (L.map Value.string) ∧ ∀ g, sv.ownBlock = some g → fv.ownBlock ≠ some g) ∧ Below N w W
theorem keeps_num (N : Nat) (fv : Value) (L : List ByteArray) (s : ByteArray) (w W : World) (h : KeepsAt N fv L w W) (hs : s.size ≤ maxLen) (hL : L.length ≤ 1000) :
    Calls Try.prog 27 #[.pointer (some ⟨N + 1, 0, none⟩), .string s] W fun e V => e = .returned (.int .i64 (numOf L s)) ∧ KeepsNew N fv L (addTo L s) w V := by
  obtain ⟨⟨sv, hb⟩, hB⟩ := h
  refine (num_any N sv L s W hb.a hs hL).mono fun e V hq => ⟨hq.1, ?_⟩
  obtain ⟨sv', ha, hk, ho⟩ := hq.2
  have hN : N < W.heap.size := hb.a.m.elim fun D hD => hD.1.lt
  refine ⟨⟨sv', ha, hk.row hb.row (fun g e => ⟨?_, ?_, fun e2 => hb.apart g e2.symm e⟩), fun g e e2 => ?_⟩, hB.trans (hk.below (by omega) (fun k hk' => ⟨by omega, by omega, fun e => ?_⟩))⟩
  · have := (hb.row.lt g e).1; omega
  · have := (hb.row.lt g e).1; omega
  · rcases ho with ho | ⟨g', ho, hg'⟩
    · exact hb.apart g (ho ▸ e) e2
    · rw [ho] at e
      obtain rfl : g' = g := by simpa using e
      have := (hb.row.lt _ e2).2; omega
  · have := (hb.a.row.lt k e.symm).1; omega
/-- The texts have not grown: both are as before. -/
theorem KeepsNew.same {N : Nat} {fv : Value} {L L' : List ByteArray} {w W : World} (h : KeepsNew N fv L L' w W) (e : L' = L) : KeepsAt N fv L w W := by
  subst e
  obtain ⟨⟨sv, h1, h2, h3⟩, hB⟩ := h
  exact ⟨⟨sv, h1, h2, h3⟩, hB⟩
theorem keeps_start (w : World) : KeepsAt w.heap.size (.slice none 0 0) [] w ((w.alloc (.map #[] 0)).alloc (.cells #[.map (some w.heap.size), .slice none 0 0] 54)) :=
  ⟨⟨_, new_atoms w, World.ownsRow_nil _ _ _ _, fun g e => by cases e⟩, ((Below.refl _ w).alloc (Nat.le_refl _) _).alloc (by simp) _⟩
theorem idx_at {L : List ByteArray} {s : ByteArray} {q : Nat} (hh : hasT L s = true) (hqe : idx L s = q) (hq : q < L.length) : L[q]'hq = s := by
  subst hqe; exact idx_get hh
theorem add_at (g k : Nat) : ((⟨g, 0, none⟩ : Addr).add k) = ⟨g, k, none⟩ := by simp [Addr.add]; omega
/-- The texts have at most 40 bytes, and each stands once. -/
structure Tidy (L : List ByteArray) : Prop where
  short : ∀ k (hk : k < L.length), (L[k]'hk).size ≤ 40
  once : ∀ k (hk : k < L.length), idx L (L[k]'hk) = k
theorem tidy_nil : Tidy [] := ⟨fun k hk => by simp at hk, fun k hk => by simp at hk⟩
theorem hasT_get {L : List ByteArray} {k : Nat} (hk : k < L.length) : hasT L L[k] = true := (hasT_iff _ _).2 (List.getElem_mem hk)
theorem Tidy.add {L : List ByteArray} (h : Tidy L) {s : ByteArray} (hs : s.size ≤ 40) (hn : hasT L s = false) : Tidy (L ++ [s]) := by
  refine ⟨fun k hk => ?_, fun k hk => ?_⟩
  · by_cases hkl : k < L.length
    · rw [List.getElem_append_left hkl]; exact h.short k hkl
    · rw [List.getElem_append_right (by omega)]; simpa using hs
  · by_cases hkl : k < L.length
    · rw [List.getElem_append_left hkl, idx_snoc_old (hasT_get hkl)]; exact h.once k hkl
    · have e : k = L.length := by simp at hk; omega
      subst e
      rw [List.getElem_append_right (by omega)]
      simpa using idx_snoc_new hn
theorem Tidy.long {L : List ByteArray} (h : Tidy L) {s : ByteArray} (hs : 40 < s.size) : hasT L s = false := by
  cases hb : hasT L s
  · rfl
  · have h1 := h.short _ (idx_lt hb)
    rw [idx_get hb] at h1; omega
/-- The slice has taken the new text, too. -/
theorem KeepsNew.append {N : Nat} {fv fv' : Value} {L : List ByteArray} {s : ByteArray} {w V X : World} {o : Obj} (h : KeepsNew N fv L (L ++ [s]) w V)
    (hrow : X.ownsRow (N + 2) 9 1 fv' (L.length + 1) (L.map Value.string ++ [Value.string s])) (hg : (V.alloc o).grownBy X fv.ownBlock) (hat : fv'.ownBlock = fv.ownBlock ∨ fv'.ownBlock = some (V.heap.size + 1)) : KeepsAt N fv' (L ++ [s]) w X := by
  obtain ⟨⟨sv, ha, hr, hap⟩, hB⟩ := h
  have hk : Kept (fun k => some k ≠ fv.ownBlock) V X := ((Kept.refl _ V).alloc _).grown hg (fun k e _ h => h e.symm)
  have hN1 : N + 1 < V.heap.size := World.block_lt_of_cell? V _ ha.c0
  have k0 : ∀ k, k < N + 2 → some k ≠ fv.ownBlock := fun k hk e => by have := (hr.lt k e.symm).1; omega
  refine ⟨⟨sv, ⟨hk.cell ha.c0 (k0 _ (by simp)), hk.cell ha.c1 (k0 _ (by simp)), (hk.frozen (d := ⟨N + 1, 1, none⟩) hN1 (k0 _ (by simp))).trans ha.f1, ?_, hk.row ha.row (fun g e e2 => hap g e e2.symm)⟩, by simpa using hrow, fun g e e2 => ?_⟩, hB.trans (hk.below (by omega) (fun k hk' => k0 k (by omega)))⟩
  · obtain ⟨D, hD, hM⟩ := ha.m
    exact ⟨D, hk.ownsMap hD (k0 _ (by simp)), hM⟩
  · rcases hat with h1 | h1
    · exact hap g e (h1 ▸ e2)
    · rw [h1] at e2
      obtain rfl : V.heap.size + 1 = g := by simpa using e2
      have := (ha.row.lt _ e).2; omega

set_option maxRecDepth 100000 in
set_option maxHeartbeats 2000000 in
theorem keeps_small (b off m cap : Nat) (t : Nat → ByteArray) (pick : Int) (w : World) (hm : m ≤ 200) (hb : b < w.heap.size) (hc : ∀ i, i < m → w.cell? ⟨b, off + i, none⟩ = some (.string (t i))) (ht : ∀ i, i < m → (t i).size ≤ maxLen) :
    Calls Try.prog 9 #[.slice (some ⟨b, off, none⟩) m cap, .int .i64 pick] w fun e w' => e = .returned (.bool true) ∧ Below w.heap.size w w' := by
  obtain ⟨i0, hi, hz0, hz1, hz2⟩ := info_parts info9
  have HC := Lib.hid hc
  have HT := Lib.hid ht
  clear hc ht
  go_enter Try.func9, Try.ntmps9
  go_wp2_with fail
  refine (awake_any _).mono ?_
  rintro e wa ⟨rfl, hba⟩
  have HBA := Lib.hid hba
  clear hba
  go_wp2_with fail
  refine (new_any _).mono ?_
  rintro e w1 ⟨rfl, hw1⟩
  have hst : KeepsAt wa.heap.size (.slice none 0 0) [] wa w1 := by rw [hw1]; exact keeps_start wa
  have HST := Lib.hid hst
  clear hst hw1
  go_wp2_with fail
  go_loopw [6, 7, 8] (fun nx fv x wr => ∃ (j : Nat) (L : List ByteArray), j ≤ m ∧ x = .int .i64 j ∧ nx = .int .i64 (L.length : Int) ∧ L.length ≤ j ∧ KeepsAt wa.heap.size fv L wa wr ∧ Tidy L) (fun _ _ x _ => m - (intOf x).toNat)
  case atStart => exact ⟨0, [], by omega, rfl, rfl, by simp, HST.out, tidy_nil⟩
  case round =>
    obtain ⟨j, L, hj, rfl, rfl, hL, hkp, htd⟩ := hrel
    have j0 : (0 : Int) ≤ (j : Int) := Int.natCast_nonneg _
    have l0 : (0 : Int) ≤ (L.length : Int) := Int.natCast_nonneg _
    have hL2 : L.length ≤ 1000 := by omega
    by_cases hjm : j < m
    · have j1 : (j : Int) < (m : Int) := by omega
      have cw : wa.cell? ⟨b, off + j, none⟩ = some (.string (t j)) := (HBA.out.cell hb).trans (HC.out j hjm)
      have hbw : b < wa.heap.size := World.block_lt_of_cell? wa _ cw
      have ck : wr.cell? ⟨b, off + j, none⟩ = some (.string (t j)) := (hkp.2.cell hbw).trans cw
      have hs := HT.out j hjm
      obtain ⟨s, hse⟩ : ∃ s, t j = s := ⟨_, rfl⟩
      rw [hse] at ck hs cw
      have HS := Lib.hid hs
      have HCW := Lib.hid cw
      have HKP := Lib.hid hkp
      have HTD := Lib.hid htd
      clear hse hs cw hkp htd
      by_cases hlong : 40 < s.size
      · have hno := HTD.out.long hlong
        have e1 := numOf_long hno hlong
        have e2 := addTo_long hno hlong
        have E1 := Lib.hid e1
        have E2 := Lib.hid e2
        clear hno e1 e2
        go_wp2_with fail
        refine (keeps_num wa.heap.size u7 L s wa _ HKP.out HS.out hL2).mono ?_
        rintro e w2 ⟨rfl, h2⟩
        rw [E1.out]
        have h2' := h2.same E2.out
        have HK2 := Lib.hid h2'
        have ck2 : w2.cell? ⟨b, off + j, none⟩ = some (.string s) := (h2'.2.cell hbw).trans HCW.out
        clear h2 h2' ck
        go_wp2_with fail
        exact ⟨⟨j + 1, L, by omega, by go_num, rfl, by omega, HK2.out, HTD.out⟩, by show m - ((j : Int) + 1).toNat < m - (j : Int).toNat; omega⟩
      · have hsh : s.size ≤ 40 := by omega
        cases hh : hasT L s
        · have e1 := numOf_new hh hlong
          have e2 := addTo_new hh hlong
          have E1 := Lib.hid e1
          have E2 := Lib.hid e2
          have HH := Lib.hid hh
          clear e1 e2 hh
          go_wp2_with fail
          refine (keeps_num wa.heap.size u7 L s wa _ HKP.out HS.out hL2).mono ?_
          rintro e w2 ⟨rfl, h2⟩
          rw [E1.out]
          rw [E2.out] at h2
          have HK2 := Lib.hid h2
          have ck2 : w2.cell? ⟨b, off + j, none⟩ = some (.string s) := (h2.2.cell hbw).trans HCW.out
          obtain ⟨⟨sv, _, hrow, _⟩, _⟩ := h2
          have hw2 : wa.heap.size + 2 ≤ w2.heap.size := by
            obtain ⟨⟨sv', ha', _⟩, _⟩ := HK2.out
            have := World.block_lt_of_cell? w2 _ ha'.c0
            simp at this; omega
          clear ck
          go_wp2_with (at_builtin; refine wpList_append_own_at _ rfl _ _ 42 rfl (wa.heap.size + 2) 9 i0 (.string ⟨#[]⟩) 1 16 Try.underlying42 hi hz0 hz1 hz2 rfl (by decide) u7 L.length _ rfl (hrow.alloc _) ⟨w2.heap.size, 0, none⟩ 1 1 [.string s] rfl rfl (cell_one_new _ _ _) ?c2 ?c3 ?c4 ?c5 ?_)
          case c2 => first | rfl | (simp [Value.oneCell'])
          case c3 => unfold maxLen; omega
          case c4 => omega
          case c5 => first | omega | (simp; omega)
          intro v' w3 hrow3 hgrow3 hne hat3
          obtain ⟨g, c3, rfl⟩ : ∃ g c3, v' = .slice (some ⟨g, 0, none⟩) (L.length + 1) c3 := by
            rcases hrow3.2 with ⟨_, h⟩ | ⟨g, c3, cur, rfl, _⟩
            · omega
            · exact ⟨g, c3, rfl⟩
          have hk3 := HK2.out.append hrow3 hgrow3 hat3
          have HK3 := Lib.hid hk3
          have ck3 : w3.cell? ⟨b, off + j, none⟩ = some (.string s) := (hk3.2.cell hbw).trans HCW.out
          have cg : w3.cell? ⟨g, L.length, none⟩ = some (.string s) := by
            have e := hrow3.cells (g := g) rfl L.length (.string s) (by simp)
            rw [add_at] at e; exact e
          clear hrow hrow3 hgrow3 hne hat3 hk3 ck2
          have l1 : (L.length : Int) < (L.length : Int) + 1 := by omega
          go_wp2_with fail
          go_quiet (fail)
          go_wp2_with fail
          exact ⟨⟨j + 1, L ++ [s], by omega, by go_num, by simp, by simp; omega, HK3.out.drewN nq, HTD.out.add hsh HH.out⟩, by show m - ((j : Int) + 1).toNat < m - (j : Int).toNat; omega⟩
        · have hq := idx_lt hh
          have e1 := numOf_old hh
          have e2 := addTo_old hh
          obtain ⟨q, hqe⟩ : ∃ q, idx L s = q := ⟨_, rfl⟩
          rw [hqe] at hq e1
          have hget : L[q]'hq = s := idx_at hh hqe hq
          have E1 := Lib.hid e1
          have E2 := Lib.hid e2
          have HG := Lib.hid hget
          obtain ⟨g, c3, hu, _⟩ := (row_shape (HKP.out.1.elim fun sv h => h.row)).2 (by omega)
          subst hu
          have q0 : (0 : Int) ≤ (q : Int) := Int.natCast_nonneg _
          have q1 : (q : Int) < (L.length : Int) := by omega
          have q2 : ((q : Int) == (L.length : Int)) = false := beq_eq_false_iff_ne.2 (by omega)
          clear e1 e2 hqe hget hh
          go_wp2_with fail
          refine (keeps_num wa.heap.size _ L s wa _ HKP.out HS.out hL2).mono ?_
          rintro e w2 ⟨rfl, h2⟩
          rw [E1.out]
          have h2' := h2.same E2.out
          have HK2 := Lib.hid h2'
          have ck2 : w2.cell? ⟨b, off + j, none⟩ = some (.string s) := (h2'.2.cell hbw).trans HCW.out
          have cg : w2.cell? ⟨g, q, none⟩ = some (.string s) := by
            obtain ⟨sv, hkk⟩ := h2'.1
            obtain ⟨g', c', e, hcc⟩ := (row_shape hkk.row).2 (by omega)
            injection e with e1 e2 e3
            injection e1 with e1
            injection e1 with e1
            rw [e1, hcc q hq, HG.out]
          clear h2 h2' ck
          go_wp2_with fail
          go_quiet (fail)
          go_wp2_with fail
          exact ⟨⟨j + 1, L, by omega, by go_num, rfl, by omega, HK2.out.drewN nq, HTD.out⟩, by show m - ((j : Int) + 1).toNat < m - (j : Int).toNat; omega⟩
    · by_cases hz : L.length = 0
      · have hz2 : (((L.length : Nat) : Int) == 0) = true := by simp [hz]
        have HKP := Lib.hid hkp
        clear hkp htd hz
        go_wp2_with fail
        go_ret
        exact ⟨rfl, HBA.out.trans (HKP.out.2.mono HBA.out.size)⟩
      · have hz2 : (((L.length : Nat) : Int) == 0) = false := beq_eq_false_iff_ne.2 (by omega)
        have HKP := Lib.hid hkp
        have HTD := Lib.hid htd
        obtain ⟨g, c3, hu, hcc⟩ := (row_shape (hkp.1.elim fun sv h => h.row)).2 (by omega)
        subst hu
        obtain ⟨r, hr⟩ : ∃ r : Nat, pick % (L.length : Int) = (r : Int) := Int.eq_ofNat_of_zero_le (Int.emod_nonneg _ (by omega))
        have hrl : r < L.length := by
          have := Int.emod_lt_of_pos pick (show (0 : Int) < (L.length : Int) by omega)
          omega
        have cg := hcc r hrl
        have r0 : (0 : Int) ≤ (r : Int) := Int.natCast_nonneg _
        have r1 : (r : Int) < (L.length : Int) := by omega
        have hsz := htd.short r hrl
        have hon := htd.once r hrl
        have hhas := hasT_get hrl
        have e1 := numOf_old hhas
        rw [hon] at e1
        have e3 := textV_yes hrl
        have e4 := textB_yes hrl
        obtain ⟨s, hse⟩ : ∃ s, L[r]'hrl = s := ⟨_, rfl⟩
        rw [hse] at cg hsz e1 e3
        have HR := Lib.hid hr
        have E1 := Lib.hid e1
        have E3 := Lib.hid e3
        have E4 := Lib.hid e4
        have E5 := Lib.hid (textV_no (L := L) (n := (L.length : Int)) (by omega))
        have E6 := Lib.hid (textB_no (L := L) (n := (L.length : Int)) (by omega))
        clear hkp htd hcc hr hon hhas e1 e3 e4 hse hz
        go_wp2_with fail
        refine (pick_any pick (L.length : Int) (by omega) (by omega) _).mono ?_
        rintro e w' ⟨rfl, rfl⟩
        rw [HR.out]
        go_wp2_with fail
        refine (HKP.out.1.elim fun sv h => text_any wa.heap.size sv L _ _ h.a hL2).mono ?_
        rintro e w' ⟨rfl, rfl⟩
        rw [E3.out, E4.out]
        go_wp2_with fail
        refine (HKP.out.1.elim fun sv h => text_any wa.heap.size sv L _ _ h.a hL2).mono ?_
        rintro e w' ⟨rfl, rfl⟩
        rw [E5.out, E6.out]
        go_wp2_with fail
        refine (keeps_num wa.heap.size _ L s wa _ HKP.out (by unfold maxLen; omega) hL2).mono ?_
        rintro e w2 ⟨rfl, h2⟩
        rw [E1.out]
        have HB2 := Lib.hid h2.2
        clear h2 cg
        go_wp2_with fail
        go_ret
        exact ⟨rfl, HBA.out.trans (HB2.out.mono HBA.out.size)⟩
set_option maxRecDepth 100000 in
set_option maxHeartbeats 2000000 in
theorem keeps_big (b off len cap : Nat) (t : Nat → ByteArray) (pick : Int) (w : World) (hl : 200 < len) (hcap : len ≤ cap) (hb : b < w.heap.size) (hc : ∀ i, i < 200 → w.cell? ⟨b, off + i, none⟩ = some (.string (t i))) (ht : ∀ i, i < 200 → (t i).size ≤ maxLen) :
    Calls Try.prog 9 #[.slice (some ⟨b, off, none⟩) len cap, .int .i64 pick] w fun e w' => e = .returned (.bool true) ∧ Below w.heap.size w w' := by
  obtain ⟨i0, hi, hz0, hz1, hz2⟩ := info_parts info9
  have HC := Lib.hid hc
  have HT := Lib.hid ht
  clear hc ht
  have hl1 : (200 : Int) < (len : Int) := by omega
  have hl2 : (200 : Int) ≤ (cap : Int) := by omega
  have hl3 : 200 ≤ cap := by omega
  go_enter Try.func9, Try.ntmps9
  go_wp2_with fail
  refine (awake_any _).mono ?_
  rintro e wa ⟨rfl, hba⟩
  have HBA := Lib.hid hba
  clear hba
  go_wp2_with fail
  refine (new_any _).mono ?_
  rintro e w1 ⟨rfl, hw1⟩
  have hst : KeepsAt wa.heap.size (.slice none 0 0) [] wa w1 := by rw [hw1]; exact keeps_start wa
  have HST := Lib.hid hst
  clear hst hw1
  go_wp2_with fail
  go_loopw [6, 7, 8] (fun nx fv x wr => ∃ (j : Nat) (L : List ByteArray), j ≤ 200 ∧ x = .int .i64 j ∧ nx = .int .i64 (L.length : Int) ∧ L.length ≤ j ∧ KeepsAt wa.heap.size fv L wa wr ∧ Tidy L) (fun _ _ x _ => 200 - (intOf x).toNat)
  case atStart => exact ⟨0, [], by omega, rfl, rfl, by simp, HST.out, tidy_nil⟩
  case round =>
    obtain ⟨j, L, hj, rfl, rfl, hL, hkp, htd⟩ := hrel
    have j0 : (0 : Int) ≤ (j : Int) := Int.natCast_nonneg _
    have l0 : (0 : Int) ≤ (L.length : Int) := Int.natCast_nonneg _
    have hL2 : L.length ≤ 1000 := by omega
    by_cases hjm : j < 200
    · have j1 : (j : Int) < (200 : Int) := by omega
      have cw : wa.cell? ⟨b, off + j, none⟩ = some (.string (t j)) := (HBA.out.cell hb).trans (HC.out j hjm)
      have hbw : b < wa.heap.size := World.block_lt_of_cell? wa _ cw
      have ck : wr.cell? ⟨b, off + j, none⟩ = some (.string (t j)) := (hkp.2.cell hbw).trans cw
      have hs := HT.out j hjm
      obtain ⟨s, hse⟩ : ∃ s, t j = s := ⟨_, rfl⟩
      rw [hse] at ck hs cw
      have HS := Lib.hid hs
      have HCW := Lib.hid cw
      have HKP := Lib.hid hkp
      have HTD := Lib.hid htd
      clear hse hs cw hkp htd
      by_cases hlong : 40 < s.size
      · have hno := HTD.out.long hlong
        have e1 := numOf_long hno hlong
        have e2 := addTo_long hno hlong
        have E1 := Lib.hid e1
        have E2 := Lib.hid e2
        clear hno e1 e2
        go_wp2_with fail
        refine (keeps_num wa.heap.size u7 L s wa _ HKP.out HS.out hL2).mono ?_
        rintro e w2 ⟨rfl, h2⟩
        rw [E1.out]
        have h2' := h2.same E2.out
        have HK2 := Lib.hid h2'
        have ck2 : w2.cell? ⟨b, off + j, none⟩ = some (.string s) := (h2'.2.cell hbw).trans HCW.out
        clear h2 h2' ck
        go_wp2_with fail
        exact ⟨⟨j + 1, L, by omega, by go_num, rfl, by omega, HK2.out, HTD.out⟩, by show 200 - ((j : Int) + 1).toNat < 200 - (j : Int).toNat; omega⟩
      · have hsh : s.size ≤ 40 := by omega
        cases hh : hasT L s
        · have e1 := numOf_new hh hlong
          have e2 := addTo_new hh hlong
          have E1 := Lib.hid e1
          have E2 := Lib.hid e2
          have HH := Lib.hid hh
          clear e1 e2 hh
          go_wp2_with fail
          refine (keeps_num wa.heap.size u7 L s wa _ HKP.out HS.out hL2).mono ?_
          rintro e w2 ⟨rfl, h2⟩
          rw [E1.out]
          rw [E2.out] at h2
          have HK2 := Lib.hid h2
          have ck2 : w2.cell? ⟨b, off + j, none⟩ = some (.string s) := (h2.2.cell hbw).trans HCW.out
          obtain ⟨⟨sv, _, hrow, _⟩, _⟩ := h2
          have hw2 : wa.heap.size + 2 ≤ w2.heap.size := by
            obtain ⟨⟨sv', ha', _⟩, _⟩ := HK2.out
            have := World.block_lt_of_cell? w2 _ ha'.c0
            simp at this; omega
          clear ck
          go_wp2_with (at_builtin; refine wpList_append_own_at _ rfl _ _ 42 rfl (wa.heap.size + 2) 9 i0 (.string ⟨#[]⟩) 1 16 Try.underlying42 hi hz0 hz1 hz2 rfl (by decide) u7 L.length _ rfl (hrow.alloc _) ⟨w2.heap.size, 0, none⟩ 1 1 [.string s] rfl rfl (cell_one_new _ _ _) ?c2 ?c3 ?c4 ?c5 ?_)
          case c2 => first | rfl | (simp [Value.oneCell'])
          case c3 => unfold maxLen; omega
          case c4 => omega
          case c5 => first | omega | (simp; omega)
          intro v' w3 hrow3 hgrow3 hne hat3
          obtain ⟨g, c3, rfl⟩ : ∃ g c3, v' = .slice (some ⟨g, 0, none⟩) (L.length + 1) c3 := by
            rcases hrow3.2 with ⟨_, h⟩ | ⟨g, c3, cur, rfl, _⟩
            · omega
            · exact ⟨g, c3, rfl⟩
          have hk3 := HK2.out.append hrow3 hgrow3 hat3
          have HK3 := Lib.hid hk3
          have ck3 : w3.cell? ⟨b, off + j, none⟩ = some (.string s) := (hk3.2.cell hbw).trans HCW.out
          have cg : w3.cell? ⟨g, L.length, none⟩ = some (.string s) := by
            have e := hrow3.cells (g := g) rfl L.length (.string s) (by simp)
            rw [add_at] at e; exact e
          clear hrow hrow3 hgrow3 hne hat3 hk3 ck2
          have l1 : (L.length : Int) < (L.length : Int) + 1 := by omega
          go_wp2_with fail
          go_quiet (fail)
          go_wp2_with fail
          exact ⟨⟨j + 1, L ++ [s], by omega, by go_num, by simp, by simp; omega, HK3.out.drewN nq, HTD.out.add hsh HH.out⟩, by show 200 - ((j : Int) + 1).toNat < 200 - (j : Int).toNat; omega⟩
        · have hq := idx_lt hh
          have e1 := numOf_old hh
          have e2 := addTo_old hh
          obtain ⟨q, hqe⟩ : ∃ q, idx L s = q := ⟨_, rfl⟩
          rw [hqe] at hq e1
          have hget : L[q]'hq = s := idx_at hh hqe hq
          have E1 := Lib.hid e1
          have E2 := Lib.hid e2
          have HG := Lib.hid hget
          obtain ⟨g, c3, hu, _⟩ := (row_shape (HKP.out.1.elim fun sv h => h.row)).2 (by omega)
          subst hu
          have q0 : (0 : Int) ≤ (q : Int) := Int.natCast_nonneg _
          have q1 : (q : Int) < (L.length : Int) := by omega
          have q2 : ((q : Int) == (L.length : Int)) = false := beq_eq_false_iff_ne.2 (by omega)
          clear e1 e2 hqe hget hh
          go_wp2_with fail
          refine (keeps_num wa.heap.size _ L s wa _ HKP.out HS.out hL2).mono ?_
          rintro e w2 ⟨rfl, h2⟩
          rw [E1.out]
          have h2' := h2.same E2.out
          have HK2 := Lib.hid h2'
          have ck2 : w2.cell? ⟨b, off + j, none⟩ = some (.string s) := (h2'.2.cell hbw).trans HCW.out
          have cg : w2.cell? ⟨g, q, none⟩ = some (.string s) := by
            obtain ⟨sv, hkk⟩ := h2'.1
            obtain ⟨g', c', e, hcc⟩ := (row_shape hkk.row).2 (by omega)
            injection e with e1 e2 e3
            injection e1 with e1
            injection e1 with e1
            rw [e1, hcc q hq, HG.out]
          clear h2 h2' ck
          go_wp2_with fail
          go_quiet (fail)
          go_wp2_with fail
          exact ⟨⟨j + 1, L, by omega, by go_num, rfl, by omega, HK2.out.drewN nq, HTD.out⟩, by show 200 - ((j : Int) + 1).toNat < 200 - (j : Int).toNat; omega⟩
    · by_cases hz : L.length = 0
      · have hz2 : (((L.length : Nat) : Int) == 0) = true := by simp [hz]
        have HKP := Lib.hid hkp
        clear hkp htd hz
        go_wp2_with fail
        go_ret
        exact ⟨rfl, HBA.out.trans (HKP.out.2.mono HBA.out.size)⟩
      · have hz2 : (((L.length : Nat) : Int) == 0) = false := beq_eq_false_iff_ne.2 (by omega)
        have HKP := Lib.hid hkp
        have HTD := Lib.hid htd
        obtain ⟨g, c3, hu, hcc⟩ := (row_shape (hkp.1.elim fun sv h => h.row)).2 (by omega)
        subst hu
        obtain ⟨r, hr⟩ : ∃ r : Nat, pick % (L.length : Int) = (r : Int) := Int.eq_ofNat_of_zero_le (Int.emod_nonneg _ (by omega))
        have hrl : r < L.length := by
          have := Int.emod_lt_of_pos pick (show (0 : Int) < (L.length : Int) by omega)
          omega
        have cg := hcc r hrl
        have r0 : (0 : Int) ≤ (r : Int) := Int.natCast_nonneg _
        have r1 : (r : Int) < (L.length : Int) := by omega
        have hsz := htd.short r hrl
        have hon := htd.once r hrl
        have hhas := hasT_get hrl
        have e1 := numOf_old hhas
        rw [hon] at e1
        have e3 := textV_yes hrl
        have e4 := textB_yes hrl
        obtain ⟨s, hse⟩ : ∃ s, L[r]'hrl = s := ⟨_, rfl⟩
        rw [hse] at cg hsz e1 e3
        have HR := Lib.hid hr
        have E1 := Lib.hid e1
        have E3 := Lib.hid e3
        have E4 := Lib.hid e4
        have E5 := Lib.hid (textV_no (L := L) (n := (L.length : Int)) (by omega))
        have E6 := Lib.hid (textB_no (L := L) (n := (L.length : Int)) (by omega))
        clear hkp htd hcc hr hon hhas e1 e3 e4 hse hz
        go_wp2_with fail
        refine (pick_any pick (L.length : Int) (by omega) (by omega) _).mono ?_
        rintro e w' ⟨rfl, rfl⟩
        rw [HR.out]
        go_wp2_with fail
        refine (HKP.out.1.elim fun sv h => text_any wa.heap.size sv L _ _ h.a hL2).mono ?_
        rintro e w' ⟨rfl, rfl⟩
        rw [E3.out, E4.out]
        go_wp2_with fail
        refine (HKP.out.1.elim fun sv h => text_any wa.heap.size sv L _ _ h.a hL2).mono ?_
        rintro e w' ⟨rfl, rfl⟩
        rw [E5.out, E6.out]
        go_wp2_with fail
        refine (keeps_num wa.heap.size _ L s wa _ HKP.out (by unfold maxLen; omega) hL2).mono ?_
        rintro e w2 ⟨rfl, h2⟩
        rw [E1.out]
        have HB2 := Lib.hid h2.2
        clear h2 cg
        go_wp2_with fail
        go_ret
        exact ⟨rfl, HBA.out.trans (HB2.out.mono HBA.out.size)⟩
set_option maxRecDepth 100000 in
set_option maxHeartbeats 1000000 in
theorem keeps_zero (ao : Option Addr) (cap : Nat) (pick : Int) (w : World) :
    Calls Try.prog 9 #[.slice ao 0 cap, .int .i64 pick] w fun e w' => e = .returned (.bool true) ∧ Below w.heap.size w w' := by
  go_enter Try.func9, Try.ntmps9
  go_wp2_with fail
  refine (awake_any _).mono ?_
  rintro e wa ⟨rfl, hba⟩
  have HBA := Lib.hid hba
  clear hba
  go_wp2_with fail
  refine (new_any _).mono ?_
  rintro e w1 ⟨rfl, hw1⟩
  have hst : KeepsAt wa.heap.size (.slice none 0 0) [] wa w1 := by rw [hw1]; exact keeps_start wa
  have HST := Lib.hid hst
  clear hst hw1
  go_wp2_with fail
  refine wp_loop_rounds 1 ?_
  rw [rounds_succ]
  go_wp2_with fail
  go_ret
  exact ⟨rfl, HBA.out.trans (HST.out.2.mono HBA.out.size)⟩
end Go.Proofs.Ytfchkgihiclkkaa
