/-
  The walk of WordAtoms: true at every input.
-/
import Derived.Test.YtfchkgihiclkkaaWalkC
import Derived.Test.YtfchkgihiclkkaaAwake
import Derived.Deep.RegionHeld3
namespace Go.Proofs.Ytfchkgihiclkkaa
open Go.RowKit Go.Maps

/-- The object at N and the reference's at N + 2 hold the same texts, apart from each other. -/
structure Both (N : Nat) (sv rv : Value) (L : List ByteArray) (W : World) : Prop where
  a : AtomsAt W N sv L
  r : RefAt W (N + 2) rv L
  apart : ∀ g, sv.ownBlock = some g → g ≠ N + 2 ∧ rv.ownBlock ≠ some g
/-- Somewhere both are, with below N nothing has turned. -/
def Pair (N : Nat) (L : List ByteArray) (w W : World) : Prop := (∃ sv rv, Both N sv rv L W) ∧ Below N w W
theorem Both.num {N : Nat} {sv rv : Value} {L L' : List ByteArray} {W V : World} (h : Both N sv rv L W) (hl : NumLeft N sv L' W V) : (∃ sv', AtomsAt V N sv' L' ∧ RefAt V (N + 2) rv L ∧ ∀ g, sv'.ownBlock = some g → g ≠ N + 2 ∧ rv.ownBlock ≠ some g) ∧ Below N W V := by
  obtain ⟨sv', ha, hk, ho⟩ := hl
  have hN : N < W.heap.size := h.a.m.elim fun D hD => hD.1.lt
  have hR : N + 2 < W.heap.size := World.block_lt_of_cell? W _ h.r.c
  have hs2 : some (N + 2) ≠ sv.ownBlock := fun e => (h.apart (N + 2) e.symm).1 rfl
  have hrow : ∀ g, rv.ownBlock = some g → g ≠ N ∧ g ≠ N + 1 ∧ some g ≠ sv.ownBlock := fun g e => by
    have h1 := (h.r.row.lt g e).1
    exact ⟨by omega, by omega, fun e2 => (h.apart g e2.symm).2 e⟩
  refine ⟨⟨sv', ha, ⟨hk.cell h.r.c ⟨by simp, by simp, hs2⟩, (hk.frozen (d := ⟨N + 2, 0, none⟩) hR ⟨by simp, by simp, hs2⟩).trans h.r.f, hk.row h.r.row hrow⟩, fun g e => ?_⟩, hk.below (by omega) (fun k hk' => ⟨by omega, by omega, fun e => ?_⟩)⟩
  · rcases ho with ho | ⟨g', ho, hg'⟩
    · exact h.apart g (ho ▸ e)
    · rw [ho] at e
      obtain rfl : g' = g := by simpa using e
      exact ⟨by omega, fun e2 => by have := (h.r.row.lt _ e2).2; omega⟩
  · have := (h.a.row.lt k e.symm).1; omega
theorem Both.ref {N : Nat} {sv rv : Value} {L L' : List ByteArray} {W V : World} (ha : AtomsAt W N sv L') (hr : RefAt W (N + 2) rv L) (hap : ∀ g, sv.ownBlock = some g → g ≠ N + 2 ∧ rv.ownBlock ≠ some g) (hl : RefLeft (N + 2) rv L' W V) :
    (∃ rv', Both N sv rv' L' V) ∧ Below N W V := by
  obtain ⟨rv', hr', hk, ho⟩ := hl
  have hN1 : N + 1 < W.heap.size := World.block_lt_of_cell? W _ ha.c0
  have hrb : ∀ g, rv.ownBlock = some g → N + 3 ≤ g := fun g e => (hr.row.lt g e).1
  have k0 : ∀ k, k < N + 2 → k ≠ N + 2 ∧ some k ≠ rv.ownBlock := fun k hk => ⟨by omega, fun e => by have := hrb k e.symm; omega⟩
  refine ⟨⟨rv', ⟨hk.cell ha.c0 (k0 _ (by simp)), hk.cell ha.c1 (k0 _ (by simp)), (hk.frozen (d := ⟨N + 1, 1, none⟩) hN1 (k0 _ (by simp))).trans ha.f1, ?_, hk.row ha.row (fun g e => ⟨(hap g e).1, fun e2 => (hap g e).2 e2.symm⟩)⟩, hr', fun g e => ?_⟩, hk.below (by omega) (fun k hk' => k0 k (by omega))⟩
  · obtain ⟨D, hD, hM⟩ := ha.m
    exact ⟨D, hk.ownsMap hD (k0 _ (by simp)), hM⟩
  · refine ⟨(hap g e).1, fun e2 => ?_⟩
    rcases ho with ho | ⟨g', ho, hg'⟩
    · exact (hap g e).2 (ho ▸ e2)
    · rw [ho] at e2
      obtain rfl : g' = g := by simpa using e2
      have := (ha.row.lt g' e).2; omega
/-- The object has taken the text, the reference's not yet. -/
def Half (N : Nat) (L : List ByteArray) (s : ByteArray) (w W : World) : Prop :=
  (∃ sv rv, AtomsAt W N sv (addTo L s) ∧ RefAt W (N + 2) rv L ∧ ∀ g, sv.ownBlock = some g → g ≠ N + 2 ∧ rv.ownBlock ≠ some g) ∧ Below N w W
theorem AtomsAt.drew {w : World} {N : Nat} {sv : Value} {L : List ByteArray} (h : AtomsAt w N sv L) : AtomsAt w.drew N sv L :=
  ⟨h.c0, h.c1, h.f1, h.m.elim fun D hD => ⟨D, hD.1.drew, hD.2⟩, h.row⟩
theorem Pair.drew {N : Nat} {L : List ByteArray} {w W : World} (h : Pair N L w W) : Pair N L w W.drew := by
  obtain ⟨⟨sv, rv, hb⟩, hB⟩ := h
  exact ⟨⟨sv, rv, hb.a.drew, ⟨hb.r.c, hb.r.f, hb.r.row⟩, hb.apart⟩, hB.drew⟩
theorem pair_num (N : Nat) (L : List ByteArray) (s : ByteArray) (w W : World) (h : Pair N L w W) (hs : s.size ≤ maxLen) (hL : L.length ≤ 1000) :
    Calls Try.prog 27 #[.pointer (some ⟨N + 1, 0, none⟩), .string s] W fun e V => e = .returned (.int .i64 (numOf L s)) ∧ Half N L s w V := by
  obtain ⟨⟨sv, rv, hb⟩, hB⟩ := h
  exact (num_any N sv L s W hb.a hs hL).mono fun e V hq => ⟨hq.1, by
    obtain ⟨⟨sv', h1, h2, h3⟩, h4⟩ := hb.num hq.2
    exact ⟨⟨sv', rv, h1, h2, h3⟩, hB.trans h4⟩⟩
theorem half_ref (N : Nat) (L : List ByteArray) (s : ByteArray) (w W : World) (h : Half N L s w W) (hs : s.size ≤ maxLen) (hL : L.length ≤ 1000) :
    Calls Try.prog 28 #[.pointer (some ⟨N + 2, 0, none⟩), .string s] W fun e V => e = .returned (.int .i64 (numOf L s)) ∧ Pair N (addTo L s) w V := by
  obtain ⟨⟨sv, rv, ha, hr, hap⟩, hB⟩ := h
  exact (refNum_any (N + 2) rv L s W hr hs hL).mono fun e V hq => ⟨hq.1, by
    obtain ⟨⟨rv', h1⟩, h2⟩ := Both.ref ha hr hap hq.2
    exact ⟨⟨sv, rv', h1⟩, hB.trans h2⟩⟩
theorem pair_text (N : Nat) (L : List ByteArray) (n : Int) (w W : World) (h : Pair N L w W) (hL : L.length ≤ 1000) :
    Calls Try.prog 29 #[.pointer (some ⟨N + 1, 0, none⟩), .int .i64 n] W fun e V => e = .returned (.tuple #[.string (textV L n), .bool (textB L n)]) ∧ W = V := by
  obtain ⟨⟨sv, rv, hb⟩, _⟩ := h
  exact text_any N sv L n W hb.a hL
theorem pair_refText (N : Nat) (L : List ByteArray) (n : Int) (w W : World) (h : Pair N L w W) (hL : L.length ≤ 1000) :
    Calls Try.prog 30 #[.pointer (some ⟨N + 1 + 1, 0, none⟩), .int .i64 n] W fun e V => e = .returned (.tuple #[.string (textV L n), .bool (textB L n)]) ∧ W = V := by
  obtain ⟨⟨sv, rv, hb⟩, _⟩ := h
  exact refText_any (N + 2) rv L n W hb.r hL
theorem pair_start (w : World) : Pair w.heap.size [] w (((w.alloc (.map #[] 0)).alloc (.cells #[.map (some w.heap.size), .slice none 0 0] 54)).alloc (.cells #[.slice none 0 0] 47)) := by
  have ha := new_atoms w
  have hk : Kept (fun _ => True) ((w.alloc (.map #[] 0)).alloc (.cells #[.map (some w.heap.size), .slice none 0 0] 54)) (((w.alloc (.map #[] 0)).alloc (.cells #[.map (some w.heap.size), .slice none 0 0] 54)).alloc (.cells #[.slice none 0 0] 47)) := (Kept.refl _ _).alloc _
  refine ⟨⟨_, _, ⟨hk.cell ha.c0 trivial, hk.cell ha.c1 trivial, (hk.frozen (d := ⟨w.heap.size + 1, 1, none⟩) (by simp) trivial).trans ha.f1, ?_, hk.row ha.row (fun _ _ => trivial)⟩, ⟨?_, ?_, World.ownsRow_nil _ _ _ _⟩, fun g e => by cases e⟩, ?_⟩
  · obtain ⟨D, hD, hM⟩ := ha.m
    exact ⟨D, hk.ownsMap hD trivial, hM⟩
  · have e := World.cell?_alloc_new ((w.alloc (.map #[] 0)).alloc (.cells #[.map (some w.heap.size), .slice none 0 0] 54)) #[.slice none 0 0] 47 0
    simp only [World.size_alloc] at e
    rw [e]; rfl
  · have e := World.frozen?_alloc_new ((w.alloc (.map #[] 0)).alloc (.cells #[.map (some w.heap.size), .slice none 0 0] 54)) #[.slice none 0 0] 47 0
    simp only [World.size_alloc] at e
    exact e
  · exact ((((Below.refl _ w).alloc (Nat.le_refl _) _).alloc (by simp) _).alloc (by simp; omega) _)
theorem pair_numC (N : Nat) (L : List ByteArray) (s : ByteArray) (w W : World) (h : Pair N L w W) (hs : s.size ≤ maxLen) (hL : L.length ≤ 1000) (d : Addr) (x : Value) (hd : d.block < N) (hx : w.cell? d = some x) :
    Calls Try.prog 27 #[.pointer (some ⟨N + 1, 0, none⟩), .string s] W fun e V => e = .returned (.int .i64 (numOf L s)) ∧ Half N L s w V ∧ V.cell? d = some x :=
  (pair_num N L s w W h hs hL).mono fun _ _ hq => ⟨hq.1, hq.2, (hq.2.2.cell hd).trans hx⟩
theorem half_refC (N : Nat) (L : List ByteArray) (s : ByteArray) (w W : World) (h : Half N L s w W) (hs : s.size ≤ maxLen) (hL : L.length ≤ 1000) (d : Addr) (x : Value) (hd : d.block < N) (hx : w.cell? d = some x) :
    Calls Try.prog 28 #[.pointer (some ⟨N + 1 + 1, 0, none⟩), .string s] W fun e V => e = .returned (.int .i64 (numOf L s)) ∧ Pair N (addTo L s) w V ∧ V.cell? d = some x :=
  (half_ref N L s w W h hs hL).mono fun _ _ hq => ⟨hq.1, hq.2, (hq.2.2.cell hd).trans hx⟩

set_option maxRecDepth 100000 in
set_option maxHeartbeats 2000000 in
theorem atoms_small (b off m cap : Nat) (t : Nat → ByteArray) (n : Int) (w : World) (hm : m ≤ 200) (hb : b < w.heap.size) (hc : ∀ i, i < m → w.cell? ⟨b, off + i, none⟩ = some (.string (t i))) (ht : ∀ i, i < m → (t i).size ≤ maxLen) :
    Calls Try.prog 7 #[.slice (some ⟨b, off, none⟩) m cap, .int .i64 n] w fun e w' => e = .returned (.bool true) ∧ Below w.heap.size w w' := by
  have HC := Lib.hid hc
  have HT := Lib.hid ht
  clear hc ht
  have HP0 := Lib.hid (pair_start w)
  go_enter Try.func7, Try.ntmps7
  go_wp2_with fail
  go_loop [5, 6] (fun z x => ∃ (k : Nat) (y : Int), k ≤ m ∧ x = .int .i64 k ∧ z = .int .i64 y ∧ 0 ≤ y ∧ y ≤ 100001 * k) (fun _ x => m - (intOf x).toNat)
  case atStart => exact ⟨0, 0, by omega, rfl, rfl, by omega, by omega⟩
  case round =>
    obtain ⟨k, y, hk, rfl, rfl, y0, y1⟩ := hrel
    have k0 : (0 : Int) ≤ (k : Int) := Int.natCast_nonneg _
    by_cases hkm : k < m
    · have k1 : (k : Int) < (m : Int) := by omega
      have ck := HC.out k hkm
      have hs := HT.out k hkm
      obtain ⟨s, hse⟩ : ∃ s, t k = s := ⟨_, rfl⟩
      rw [hse] at ck hs
      unfold maxLen at hs
      obtain ⟨q, hq, q0, q1⟩ : ∃ q : Int, (if (100001 : Int) < (s.size : Int) then 100001 else (s.size : Int)) = q ∧ 0 ≤ q ∧ q ≤ 100001 := ⟨_, rfl, by split <;> omega, by split <;> omega⟩
      clear hse
      go_wp2_with fail
      exact ⟨⟨k + 1, y + q, by omega, by go_num, rfl, by omega, by omega⟩, by show m - ((k : Int) + 1).toNat < m - (k : Int).toNat; omega⟩
    · by_cases hy : 100000 < y
      · go_wp2_with fail
        refine (awake_any _).mono ?_
        rintro e w1 ⟨rfl, h1⟩
        go_wp2_with fail
        go_ret
        exact ⟨rfl, h1⟩
      · go_wp2_with fail
        refine (new_any _).mono ?_
        rintro e w1 ⟨rfl, rfl⟩
        go_wp2_with fail
        obtain ⟨W0, hW0⟩ : ∃ W0 : World, ((w.alloc (.map #[] 0)).alloc (.cells #[.map (some w.heap.size), .slice none 0 0] 54)).alloc (.cells #[.slice none 0 0] 47) = W0 := ⟨_, rfl⟩
        have hp0 := HP0.out
        rw [hW0] at hp0 ⊢
        have HP := Lib.hid hp0
        clear hp0 hW0 HP0
        go_loopw [9] (fun x wr => ∃ (j : Nat) (L : List ByteArray), j ≤ m ∧ x = .int .i64 j ∧ L.length ≤ j ∧ Pair w.heap.size L w wr) (fun x _ => m - (intOf x).toNat)
        case atStart => exact ⟨0, [], by omega, rfl, by simp, HP.out⟩
        case round =>
          obtain ⟨j, L, hj, rfl, hL, hpr⟩ := hrel
          have HPr := Lib.hid hpr
          have hL2 : L.length ≤ 1000 := by omega
          have j0 : (0 : Int) ≤ (j : Int) := Int.natCast_nonneg _
          by_cases hjm : j < m
          · have j1 : (j : Int) < (m : Int) := by omega
            have cw := HC.out j hjm
            have ck : wr.cell? ⟨b, off + j, none⟩ = some (.string (t j)) := (hpr.2.cell hb).trans cw
            have hs := HT.out j hjm
            obtain ⟨s, hse⟩ : ∃ s, t j = s := ⟨_, rfl⟩
            rw [hse] at ck hs cw
            have HS := Lib.hid hs
            have HCW := Lib.hid cw
            clear hse hs cw hpr
            have hpd := HPr.out.drew
            go_wp2_with fail
            go_region_held3 (fun W' => W'.cell? ⟨b, off + j, none⟩ = some (.string s)) (first | exact ck | assumption)
              (first | (go_at_call 27; refine (pair_numC w.heap.size L s w _ (by assumption) HS.out hL2 ⟨b, off + j, none⟩ _ hb HCW.out).mono ?_; rintro e w' ⟨rfl, hhalf, hcell⟩) | (go_at_call 28; refine (half_refC w.heap.size L s w _ (by assumption) HS.out hL2 ⟨b, off + j, none⟩ _ hb HCW.out).mono ?_; rintro e w' ⟨rfl, hpair, hcell⟩))
            have hpp : Pair w.heap.size (addTo L s) w _ := ‹Pair w.heap.size (addTo L s) w _›
            have HPP := Lib.hid hpp
            have hl3 := (addTo_length L s).2
            clear hpp ck hpd
            go_wp2_with fail
            refine (pair_text w.heap.size (addTo L s) _ w _ HPP.out (by omega)).mono ?_
            rintro e w' ⟨rfl, rfl⟩
            go_wp2_with fail
            refine (pair_refText w.heap.size (addTo L s) _ w _ HPP.out (by omega)).mono ?_
            rintro e w' ⟨rfl, rfl⟩
            go_wp2_with fail
            exact ⟨⟨j + 1, addTo L s, by omega, by go_num, by omega, HPP.out⟩, by show m - ((j : Int) + 1).toNat < m - (j : Int).toNat; omega⟩
          · clear hpr
            go_wp2_with fail
            refine (pair_text w.heap.size L _ w _ HPr.out hL2).mono ?_
            rintro e w' ⟨rfl, rfl⟩
            go_wp2_with fail
            refine (pair_refText w.heap.size L _ w _ HPr.out hL2).mono ?_
            rintro e w' ⟨rfl, rfl⟩
            go_wp2_with fail
            refine (awake_any _).mono ?_
            rintro e w1 ⟨rfl, h1⟩
            go_wp2_with fail
            go_ret
            exact ⟨rfl, HPr.out.2.trans (h1.mono HPr.out.2.size)⟩
set_option maxRecDepth 100000 in
set_option maxHeartbeats 2000000 in
theorem atoms_big (b off len cap : Nat) (t : Nat → ByteArray) (n : Int) (w : World) (hl : 200 < len) (hcap : len ≤ cap) (hb : b < w.heap.size) (hc : ∀ i, i < 200 → w.cell? ⟨b, off + i, none⟩ = some (.string (t i))) (ht : ∀ i, i < 200 → (t i).size ≤ maxLen) :
    Calls Try.prog 7 #[.slice (some ⟨b, off, none⟩) len cap, .int .i64 n] w fun e w' => e = .returned (.bool true) ∧ Below w.heap.size w w' := by
  have HC := Lib.hid hc
  have HT := Lib.hid ht
  clear hc ht
  have HP0 := Lib.hid (pair_start w)
  have hl1 : (200 : Int) < (len : Int) := by omega
  have hl2 : (200 : Int) ≤ (cap : Int) := by omega
  have hl3 : 200 ≤ cap := by omega
  go_enter Try.func7, Try.ntmps7
  go_wp2_with fail
  go_loop [5, 6] (fun z x => ∃ (k : Nat) (y : Int), k ≤ 200 ∧ x = .int .i64 k ∧ z = .int .i64 y ∧ 0 ≤ y ∧ y ≤ 100001 * k) (fun _ x => 200 - (intOf x).toNat)
  case atStart => exact ⟨0, 0, by omega, rfl, rfl, by omega, by omega⟩
  case round =>
    obtain ⟨k, y, hk, rfl, rfl, y0, y1⟩ := hrel
    have k0 : (0 : Int) ≤ (k : Int) := Int.natCast_nonneg _
    by_cases hkm : k < 200
    · have k1 : (k : Int) < (200 : Int) := by omega
      have ck := HC.out k hkm
      have hs := HT.out k hkm
      obtain ⟨s, hse⟩ : ∃ s, t k = s := ⟨_, rfl⟩
      rw [hse] at ck hs
      unfold maxLen at hs
      obtain ⟨q, hq, q0, q1⟩ : ∃ q : Int, (if (100001 : Int) < (s.size : Int) then 100001 else (s.size : Int)) = q ∧ 0 ≤ q ∧ q ≤ 100001 := ⟨_, rfl, by split <;> omega, by split <;> omega⟩
      clear hse
      go_wp2_with fail
      exact ⟨⟨k + 1, y + q, by omega, by go_num, rfl, by omega, by omega⟩, by show 200 - ((k : Int) + 1).toNat < 200 - (k : Int).toNat; omega⟩
    · by_cases hy : 100000 < y
      · go_wp2_with fail
        refine (awake_any _).mono ?_
        rintro e w1 ⟨rfl, h1⟩
        go_wp2_with fail
        go_ret
        exact ⟨rfl, h1⟩
      · go_wp2_with fail
        refine (new_any _).mono ?_
        rintro e w1 ⟨rfl, rfl⟩
        go_wp2_with fail
        obtain ⟨W0, hW0⟩ : ∃ W0 : World, ((w.alloc (.map #[] 0)).alloc (.cells #[.map (some w.heap.size), .slice none 0 0] 54)).alloc (.cells #[.slice none 0 0] 47) = W0 := ⟨_, rfl⟩
        have hp0 := HP0.out
        rw [hW0] at hp0 ⊢
        have HP := Lib.hid hp0
        clear hp0 hW0 HP0
        go_loopw [9] (fun x wr => ∃ (j : Nat) (L : List ByteArray), j ≤ 200 ∧ x = .int .i64 j ∧ L.length ≤ j ∧ Pair w.heap.size L w wr) (fun x _ => 200 - (intOf x).toNat)
        case atStart => exact ⟨0, [], by omega, rfl, by simp, HP.out⟩
        case round =>
          obtain ⟨j, L, hj, rfl, hL, hpr⟩ := hrel
          have HPr := Lib.hid hpr
          have hL2 : L.length ≤ 1000 := by omega
          have j0 : (0 : Int) ≤ (j : Int) := Int.natCast_nonneg _
          by_cases hjm : j < 200
          · have j1 : (j : Int) < (200 : Int) := by omega
            have cw := HC.out j hjm
            have ck : wr.cell? ⟨b, off + j, none⟩ = some (.string (t j)) := (hpr.2.cell hb).trans cw
            have hs := HT.out j hjm
            obtain ⟨s, hse⟩ : ∃ s, t j = s := ⟨_, rfl⟩
            rw [hse] at ck hs cw
            have HS := Lib.hid hs
            have HCW := Lib.hid cw
            clear hse hs cw hpr
            have hpd := HPr.out.drew
            go_wp2_with fail
            go_region_held3 (fun W' => W'.cell? ⟨b, off + j, none⟩ = some (.string s)) (first | exact ck | assumption)
              (first | (go_at_call 27; refine (pair_numC w.heap.size L s w _ (by assumption) HS.out hL2 ⟨b, off + j, none⟩ _ hb HCW.out).mono ?_; rintro e w' ⟨rfl, hhalf, hcell⟩) | (go_at_call 28; refine (half_refC w.heap.size L s w _ (by assumption) HS.out hL2 ⟨b, off + j, none⟩ _ hb HCW.out).mono ?_; rintro e w' ⟨rfl, hpair, hcell⟩))
            have hpp : Pair w.heap.size (addTo L s) w _ := ‹Pair w.heap.size (addTo L s) w _›
            have HPP := Lib.hid hpp
            have hl3 := (addTo_length L s).2
            clear hpp ck hpd
            go_wp2_with fail
            refine (pair_text w.heap.size (addTo L s) _ w _ HPP.out (by omega)).mono ?_
            rintro e w' ⟨rfl, rfl⟩
            go_wp2_with fail
            refine (pair_refText w.heap.size (addTo L s) _ w _ HPP.out (by omega)).mono ?_
            rintro e w' ⟨rfl, rfl⟩
            go_wp2_with fail
            exact ⟨⟨j + 1, addTo L s, by omega, by go_num, by omega, HPP.out⟩, by show 200 - ((j : Int) + 1).toNat < 200 - (j : Int).toNat; omega⟩
          · clear hpr
            go_wp2_with fail
            refine (pair_text w.heap.size L _ w _ HPr.out hL2).mono ?_
            rintro e w' ⟨rfl, rfl⟩
            go_wp2_with fail
            refine (pair_refText w.heap.size L _ w _ HPr.out hL2).mono ?_
            rintro e w' ⟨rfl, rfl⟩
            go_wp2_with fail
            refine (awake_any _).mono ?_
            rintro e w1 ⟨rfl, h1⟩
            go_wp2_with fail
            go_ret
            exact ⟨rfl, HPr.out.2.trans (h1.mono HPr.out.2.size)⟩
set_option maxRecDepth 100000 in
set_option maxHeartbeats 1000000 in
theorem atoms_zero (ao : Option Addr) (cap : Nat) (n : Int) (w : World) :
    Calls Try.prog 7 #[.slice ao 0 cap, .int .i64 n] w fun e w' => e = .returned (.bool true) ∧ Below w.heap.size w w' := by
  have HP0 := Lib.hid (pair_start w)
  go_enter Try.func7, Try.ntmps7
  go_wp2_with fail
  refine wp_loop_rounds 1 ?_
  rw [rounds_succ]
  go_wp2_with fail
  refine (new_any _).mono ?_
  rintro e w1 ⟨rfl, rfl⟩
  go_wp2_with fail
  obtain ⟨W0, hW0⟩ : ∃ W0 : World, ((w.alloc (.map #[] 0)).alloc (.cells #[.map (some w.heap.size), .slice none 0 0] 54)).alloc (.cells #[.slice none 0 0] 47) = W0 := ⟨_, rfl⟩
  have hp0 := HP0.out
  rw [hW0] at hp0 ⊢
  have HPr := Lib.hid hp0
  clear hp0 hW0 HP0
  refine wp_loop_rounds 1 ?_
  rw [rounds_succ]
  go_wp2_with fail
  refine (pair_text w.heap.size [] _ w _ HPr.out (by decide)).mono ?_
  rintro e w' ⟨rfl, rfl⟩
  go_wp2_with fail
  refine (pair_refText w.heap.size [] _ w _ HPr.out (by decide)).mono ?_
  rintro e w' ⟨rfl, rfl⟩
  go_wp2_with fail
  refine (awake_any _).mono ?_
  rintro e w1 ⟨rfl, h1⟩
  go_wp2_with fail
  go_ret
  exact ⟨rfl, HPr.out.2.trans (h1.mono HPr.out.2.size)⟩
end Go.Proofs.Ytfchkgihiclkkaa
