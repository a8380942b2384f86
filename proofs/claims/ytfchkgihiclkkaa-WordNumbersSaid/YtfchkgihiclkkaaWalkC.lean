/-
  The walks of word.Atoms.Text, of pigeonholeref23.Atoms: Number, Text.
-/
import Derived.Test.YtfchkgihiclkkaaWalkB
namespace Go.Proofs.Ytfchkgihiclkkaa
open Go.RowKit Go.Maps

/-- What Text tells. -/
def textB (L : List ByteArray) (n : Int) : Bool := decide (0 ≤ n ∧ n < (L.length : Int))
def textV (L : List ByteArray) (n : Int) : ByteArray := if textB L n = true then L.getD n.toNat ⟨#[]⟩ else ⟨#[]⟩
theorem textB_yes {L : List ByteArray} {k : Nat} (h : k < L.length) : textB L (k : Int) = true := by unfold textB; exact decide_eq_true (by omega)
theorem textV_yes {L : List ByteArray} {k : Nat} (h : k < L.length) : textV L (k : Int) = L[k] := by unfold textV; rw [if_pos (textB_yes h)]; simp [h]
theorem textB_no {L : List ByteArray} {n : Int} (h : ¬ (0 ≤ n ∧ n < (L.length : Int))) : textB L n = false := by unfold textB; exact decide_eq_false h
theorem textV_no {L : List ByteArray} {n : Int} (h : ¬ (0 ≤ n ∧ n < (L.length : Int))) : textV L n = ⟨#[]⟩ := by unfold textV; rw [if_neg (by rw [textB_no h]; simp)]
theorem ret_sb {x y : ByteArray} {b c : Bool} (h1 : x = y) (h2 : b = c) : Ending.returned (.tuple #[.string x, .bool b]) = Ending.returned (.tuple #[.string y, .bool c]) := by rw [h1, h2]

/-- The value of an owned row of texts: nil and none, or a slice whose cells hold them. -/
theorem row_shape {w : World} {base : Nat} {sv : Value} {L : List ByteArray} (h : w.ownsRow base 9 1 sv L.length (L.map Value.string)) :
    (∃ a n c, sv = .slice a n c ∧ n = L.length) ∧ (0 < L.length → ∃ g c, sv = .slice (some ⟨g, 0, none⟩) L.length c ∧ ∀ k (hk : k < L.length), w.cell? ⟨g, k, none⟩ = some (.string L[k])) := by
  have hc := fun g hg => h.cells (g := g) hg
  rcases h.2 with ⟨rfl, h0⟩ | ⟨g, cap, cur, rfl, _⟩
  · exact ⟨⟨_, _, _, rfl, h0.symm⟩, fun hp => by omega⟩
  · refine ⟨⟨_, _, _, rfl, rfl⟩, fun _ => ⟨g, cap, rfl, fun k hk => ?_⟩⟩
    have e := hc g rfl k (.string L[k]) (by simp [hk])
    have e2 : ((⟨g, 0, none⟩ : Addr).add k) = ⟨g, k, none⟩ := by simp [Addr.add]; omega
    rw [e2] at e; exact e

set_option maxHeartbeats 400000 in
theorem text_out (b len : Nat) (a : Option Addr) (c : Nat) (n : Int) (w : World) (_hlen : len ≤ 1000) (c1 : w.cell? ⟨b, 1, none⟩ = some (.slice a len c)) (hn : n < 0 ∨ (len : Int) ≤ n) :
    Calls Try.prog 29 #[.pointer (some ⟨b, 0, none⟩), .int .i64 n] w fun e w' => e = .returned (.tuple #[.string ⟨#[]⟩, .bool false]) ∧ w = w' := by
  rcases hn with h | h
  · go_enter Try.func29, Try.ntmps29
    go_wp2
    go_ret2
    exact ⟨rfl, rfl⟩
  · have h0 : 0 ≤ n := by omega
    go_enter Try.func29, Try.ntmps29
    go_wp2
    go_ret2
    exact ⟨rfl, rfl⟩
set_option maxHeartbeats 400000 in
theorem text_in (b g len k c : Nat) (s : ByteArray) (w : World) (_hlen : len ≤ 1000) (c1 : w.cell? ⟨b, 1, none⟩ = some (.slice (some ⟨g, 0, none⟩) len c)) (hk : k < len) (ck : w.cell? ⟨g, k, none⟩ = some (.string s)) :
    Calls Try.prog 29 #[.pointer (some ⟨b, 0, none⟩), .int .i64 (k : Int)] w fun e w' => e = .returned (.tuple #[.string s, .bool true]) ∧ w = w' := by
  have h0 : (0 : Int) ≤ (k : Int) := Int.natCast_nonneg _
  have h1 : (k : Int) < (len : Int) := by omega
  go_enter Try.func29, Try.ntmps29
  go_wp2
  go_ret2
  exact ⟨rfl, rfl⟩
/-- Text, of an object that NewAtoms answered. -/
theorem text_any (N : Nat) (sv : Value) (L : List ByteArray) (n : Int) (w : World) (h : AtomsAt w N sv L) (hL : L.length ≤ 1000) :
    Calls Try.prog 29 #[.pointer (some ⟨N + 1, 0, none⟩), .int .i64 n] w fun e w' => e = .returned (.tuple #[.string (textV L n), .bool (textB L n)]) ∧ w = w' := by
  obtain ⟨⟨a, m, c, rfl, hm⟩, hin⟩ := row_shape h.row
  by_cases hn : 0 ≤ n ∧ n < (L.length : Int)
  · obtain ⟨g, c', e, hc⟩ := hin (by omega)
    obtain ⟨k, rfl⟩ := Int.eq_ofNat_of_zero_le hn.1
    have hk : k < L.length := by have := hn.2; omega
    have c1 := h.c1
    rw [e] at c1
    rw [textV_yes hk, textB_yes hk]
    exact text_in (N + 1) g L.length k c' L[k] w hL c1 hk (hc k hk)
  · rw [textV_no hn, textB_no hn]
    have c1 := h.c1
    rw [hm] at c1
    exact text_out (N + 1) L.length a c n w hL c1 (by omega)

/-! ### the reference -/
structure RefAt (w : World) (R : Nat) (rv : Value) (L : List ByteArray) : Prop where
  c : w.cell? ⟨R, 0, none⟩ = some rv
  f : w.frozen? ⟨R, 0, none⟩ = false
  row : w.ownsRow (R + 1) 9 1 rv L.length (L.map Value.string)
set_option maxHeartbeats 400000 in
theorem refText_out (b len : Nat) (a : Option Addr) (c : Nat) (n : Int) (w : World) (_hlen : len ≤ 1000) (c1 : w.cell? ⟨b, 0, none⟩ = some (.slice a len c)) (hn : n < 0 ∨ (len : Int) ≤ n) :
    Calls Try.prog 30 #[.pointer (some ⟨b, 0, none⟩), .int .i64 n] w fun e w' => e = .returned (.tuple #[.string ⟨#[]⟩, .bool false]) ∧ w = w' := by
  rcases hn with h | h
  · go_enter Try.func30, Try.ntmps30
    go_wp2
    go_ret2
    exact ⟨rfl, rfl⟩
  · have h0 : 0 ≤ n := by omega
    go_enter Try.func30, Try.ntmps30
    go_wp2
    go_ret2
    exact ⟨rfl, rfl⟩
set_option maxHeartbeats 400000 in
theorem refText_in (b g len k c : Nat) (s : ByteArray) (w : World) (_hlen : len ≤ 1000) (c1 : w.cell? ⟨b, 0, none⟩ = some (.slice (some ⟨g, 0, none⟩) len c)) (hk : k < len) (ck : w.cell? ⟨g, k, none⟩ = some (.string s)) :
    Calls Try.prog 30 #[.pointer (some ⟨b, 0, none⟩), .int .i64 (k : Int)] w fun e w' => e = .returned (.tuple #[.string s, .bool true]) ∧ w = w' := by
  have h0 : (0 : Int) ≤ (k : Int) := Int.natCast_nonneg _
  have h1 : (k : Int) < (len : Int) := by omega
  go_enter Try.func30, Try.ntmps30
  go_wp2
  go_ret2
  exact ⟨rfl, rfl⟩
theorem refText_any (R : Nat) (rv : Value) (L : List ByteArray) (n : Int) (w : World) (h : RefAt w R rv L) (hL : L.length ≤ 1000) :
    Calls Try.prog 30 #[.pointer (some ⟨R, 0, none⟩), .int .i64 n] w fun e w' => e = .returned (.tuple #[.string (textV L n), .bool (textB L n)]) ∧ w = w' := by
  obtain ⟨⟨a, m, c, rfl, hm⟩, hin⟩ := row_shape h.row
  by_cases hn : 0 ≤ n ∧ n < (L.length : Int)
  · obtain ⟨g, c', e, hc⟩ := hin (by omega)
    obtain ⟨k, rfl⟩ := Int.eq_ofNat_of_zero_le hn.1
    have hk : k < L.length := by have := hn.2; omega
    have c1 := h.c
    rw [e] at c1
    rw [textV_yes hk, textB_yes hk]
    exact refText_in R g L.length k c' L[k] w hL c1 hk (hc k hk)
  · rw [textV_no hn, textB_no hn]
    have c1 := h.c
    rw [hm] at c1
    exact refText_out R L.length a c n w hL c1 (by omega)
theorem same_walk (t s : ByteArray) : (t.toList == s.toList) = sameT t s := by rw [ByteArray.toList_eq, ByteArray.toList_eq]; rfl
def RefLeft (R : Nat) (rv : Value) (L' : List ByteArray) (w w' : World) : Prop :=
  ∃ rv', RefAt w' R rv' L' ∧ Kept (fun k => k ≠ R ∧ some k ≠ rv.ownBlock) w w' ∧ (rv'.ownBlock = rv.ownBlock ∨ ∃ g, rv'.ownBlock = some g ∧ w.heap.size ≤ g)
theorem RefLeft.same {R : Nat} {rv : Value} {L : List ByteArray} {w : World} (h : RefAt w R rv L) : RefLeft R rv L w w := ⟨rv, h, Kept.refl _ _, .inl rfl⟩

set_option maxHeartbeats 400000 in
theorem refNum_old (R g c : Nat) (L : List ByteArray) (s : ByteArray) (w : World) (c0 : w.cell? ⟨R, 0, none⟩ = some (.slice (some ⟨g, 0, none⟩) L.length c)) (hcell : ∀ (k : Nat) (hk : k < L.length), w.cell? ⟨g, k, none⟩ = some (.string L[k]))
    (hL : L.length ≤ 1000) (hh : hasT L s = true) :
    Calls Try.prog 28 #[.pointer (some ⟨R, 0, none⟩), .string s] w fun e w' => e = .returned (.int .i64 (idx L s : Int)) ∧ w = w' := by
  have hlt := idx_lt hh
  have HC := Lib.hid hcell
  have HH := Lib.hid hh
  clear hh hcell
  obtain ⟨j, hj⟩ : ∃ j, idx L s = j := ⟨_, rfl⟩
  have HJ := Lib.hid hj
  rw [hj] at hlt
  clear hj
  go_enter Try.func28, Try.ntmps28
  go_wp2_with fail
  go_loop [5] (fun x => ∃ k : Nat, k ≤ j ∧ x = .int .i64 k) (fun x => L.length - (intOf x).toNat)
  case atStart => exact ⟨0, by omega, rfl⟩
  case round =>
    obtain ⟨k, hk, rfl⟩ := hrel
    have hkl : k < L.length := by omega
    have h1 : (k : Int) < (L.length : Int) := by omega
    have h0 : (0 : Int) ≤ (k : Int) := Int.natCast_nonneg _
    have ck := HC.out k hkl
    obtain ⟨t, ht⟩ : ∃ t, L[k]'hkl = t := ⟨_, rfl⟩
    rw [ht] at ck
    have HT := Lib.hid ht
    clear ht
    by_cases hs : sameT t s = true
    · have hs' : (t.toList == s.toList) = true := (same_walk t s).trans hs
      go_wp2_with fail
      go_ret
      have e : idx L s = k := by
        rcases Nat.lt_or_ge k (idx L s) with h1 | h1
        · have h2 := idx_min h1 hkl
          rw [HT.out, hs] at h2; cases h2
        · have := HJ.out; omega
      exact ⟨ret_i' (by rw [e]), rfl⟩
    · have hs' : (t.toList == s.toList) = false := (same_walk t s).trans (by simpa using hs)
      have hne : k ≠ j := by
        intro e
        have h2 := idx_get HH.out
        have e2 : idx L s = k := by rw [HJ.out, e]
        simp only [e2] at h2
        rw [HT.out] at h2
        exact hs ((sameT_iff t s).2 h2)
      go_wp2_with fail
      exact ⟨⟨k + 1, by omega, by go_num⟩, by show L.length - ((k : Int) + 1).toNat < L.length - (k : Int).toNat; omega⟩
/-- The search comes to nothing. -/
theorem miss_at {L : List ByteArray} {s : ByteArray} (h : hasT L s = false) {k : Nat} (hk : k < L.length) : sameT L[k] s = false := by
  cases hb : sameT L[k] s
  · rfl
  · have h2 : hasT L s = true := by unfold hasT; exact List.any_eq_true.2 ⟨_, List.getElem_mem hk, hb⟩
    rw [h] at h2; cases h2
set_option maxHeartbeats 400000 in
theorem refNum_long (R : Nat) (rv : Value) (L : List ByteArray) (s : ByteArray) (w : World) (h : RefAt w R rv L) (hL : L.length ≤ 1000) (hl : 40 < s.size) (hs : s.size ≤ maxLen) (hh : hasT L s = false) :
    Calls Try.prog 28 #[.pointer (some ⟨R, 0, none⟩), .string s] w fun e w' => e = .returned (.int .i64 (-1)) ∧ w = w' := by
  obtain ⟨⟨a, n, c, hsv, hm⟩, hin⟩ := row_shape h.row
  subst hsv
  have c0 := h.c
  have hn : n ≤ 1000 := by omega
  have HI := Lib.hid hin
  have HM := Lib.hid hm
  have HH := Lib.hid hh
  clear hin hm h hh
  unfold maxLen at hs
  go_enter Try.func28, Try.ntmps28
  go_wp2_with fail
  go_loop [5] (fun x => ∃ k : Nat, k ≤ n ∧ x = .int .i64 k) (fun x => n - (intOf x).toNat)
  case atStart => exact ⟨0, by omega, rfl⟩
  case round =>
    obtain ⟨k, hk, rfl⟩ := hrel
    have h0 : (0 : Int) ≤ (k : Int) := Int.natCast_nonneg _
    by_cases hkn : k < n
    · have h1 : (k : Int) < (n : Int) := by omega
      have hkl : k < L.length := by have := HM.out; omega
      obtain ⟨g, c', e, hc⟩ := HI.out (by omega)
      injection e with e1 e2 e3
      subst e1
      have ck := hc k hkl
      have hs2 := (same_walk L[k] s).trans (miss_at HH.out hkl)
      obtain ⟨t, ht⟩ : ∃ t, L[k]'hkl = t := ⟨_, rfl⟩
      rw [ht] at ck hs2
      clear ht hc e2 e3
      go_wp2_with fail
      exact ⟨⟨k + 1, by omega, by go_num⟩, by show n - ((k : Int) + 1).toNat < n - (k : Int).toNat; omega⟩
    · go_wp2_with fail
      go_ret
      exact ⟨rfl, rfl⟩
set_option maxHeartbeats 400000 in
theorem refNum_new (R : Nat) (rv : Value) (L : List ByteArray) (s : ByteArray) (w : World) (h : RefAt w R rv L) (hL : L.length ≤ 1000) (hl : s.size ≤ 40) (hh : hasT L s = false) :
    Calls Try.prog 28 #[.pointer (some ⟨R, 0, none⟩), .string s] w fun e w' => e = .returned (.int .i64 (L.length : Int)) ∧ RefLeft R rv (L ++ [s]) w w' := by
  obtain ⟨⟨a, n, c, hsv, hm⟩, hin⟩ := row_shape h.row
  subst hsv
  have c0 := h.c
  have f0 := h.f
  have hrow := h.row
  have hlt := hrow.lt
  have hn : n ≤ 1000 := by omega
  have hR : R < w.heap.size := World.block_lt_of_cell? w _ c0
  obtain ⟨i0, hi, hz0, hz1, hz2⟩ := info_parts info9
  have HI := Lib.hid hin
  have HM := Lib.hid hm
  have HH := Lib.hid hh
  have HW := Lib.hid hrow
  have HL := Lib.hid hlt
  clear hin hm h hh hrow hlt
  go_enter Try.func28, Try.ntmps28
  go_wp2_with fail
  go_loop [5] (fun x => ∃ k : Nat, k ≤ n ∧ x = .int .i64 k) (fun x => n - (intOf x).toNat)
  case atStart => exact ⟨0, by omega, rfl⟩
  case round =>
    obtain ⟨k, hk, rfl⟩ := hrel
    have h0 : (0 : Int) ≤ (k : Int) := Int.natCast_nonneg _
    by_cases hkn : k < n
    · have h1 : (k : Int) < (n : Int) := by omega
      have hkl : k < L.length := by have := HM.out; omega
      obtain ⟨g, c', e, hc⟩ := HI.out (by omega)
      injection e with e1 e2 e3
      subst e1
      have ck := hc k hkl
      have hs2 := (same_walk L[k] s).trans (miss_at HH.out hkl)
      obtain ⟨t, ht⟩ : ∃ t, L[k]'hkl = t := ⟨_, rfl⟩
      rw [ht] at ck hs2
      clear ht hc e2 e3
      go_wp2_with fail
      exact ⟨⟨k + 1, by omega, by go_num⟩, by show n - ((k : Int) + 1).toNat < n - (k : Int).toNat; omega⟩
    · have hrow := HW.out
      go_wp2_with (at_builtin; refine wpList_append_own_at _ rfl _ _ 42 rfl (R + 1) 9 i0 (.string ⟨#[]⟩) 1 16 Try.underlying42 hi hz0 hz1 hz2 rfl (by decide) _ _ _ rfl (hrow.alloc _) ⟨w.heap.size, 0, none⟩ 1 1 [.string s] rfl rfl (cell_one_new _ _ _) ?c2 ?c3 ?c4 ?c5 ?_)
      case c2 => simp [Value.oneCell']
      case c3 => unfold maxLen; omega
      case c4 => omega
      case c5 => first | omega | (simp; omega)
      intro v' w2 hrow2 hgrow2 hne hat2
      obtain ⟨g, cap, rfl⟩ : ∃ g cap, v' = .slice (some ⟨g, 0, none⟩) (L.length + 1) cap := by
        rcases hrow2.2 with ⟨_, h⟩ | ⟨g, cap, cur, rfl, _⟩
        · omega
        · exact ⟨g, cap, rfl⟩
      clear hne hrow
      have hk2 : Kept (fun k => some k ≠ (Value.slice a n c).ownBlock) w w2 := ((Kept.refl _ w).alloc _).grown hgrow2 (fun k e _ h => h e.symm)
      have hne1 : some R ≠ (Value.slice a n c).ownBlock := fun e => by have := (HL.out R e.symm).1; omega
      have c2 : w2.cell? ⟨R, 0, none⟩ = some (.slice a n c) := hk2.cell c0 hne1
      have f2 : w2.frozen? ⟨R, 0, none⟩ = false := (hk2.frozen (d := ⟨R, 0, none⟩) hR hne1).trans f0
      have HR2 := Lib.hid hrow2
      have HA2 := Lib.hid hat2
      have HK2 := Lib.hid hk2
      have HN1 := Lib.hid hne1
      clear hrow2 hgrow2 hat2 hk2 hne1 c0 f0
      go_wp2_with fail
      go_ret
      refine ⟨ret_i' (by omega), ?_⟩
      refine ⟨_, ⟨World.cell?_setCell_same' _ _ _ (by rw [c2]; rfl), by rw [World.frozen?_setCell]; exact f2, ?_⟩, ?_, ?_⟩
      · rw [List.map_append, List.length_append]; exact ownsRow_setCell_below HR2.out (by simp) _
      · have k2 : Kept (fun k => k ≠ R ∧ some k ≠ (Value.slice a n c).ownBlock) w w2 := HK2.out.mono (fun k _ h => h.2)
        exact k2.setCell (fun h => h.1 rfl) _
      · rcases HA2.out with h | h
        · exact .inl h
        · exact .inr ⟨_, h, by omega⟩
theorem refNum_any (R : Nat) (rv : Value) (L : List ByteArray) (s : ByteArray) (w : World) (h : RefAt w R rv L) (hs : s.size ≤ maxLen) (hL : L.length ≤ 1000) :
    Calls Try.prog 28 #[.pointer (some ⟨R, 0, none⟩), .string s] w fun e w' => e = .returned (.int .i64 (numOf L s)) ∧ RefLeft R rv (addTo L s) w w' := by
  by_cases hh : hasT L s = true
  · rw [numOf_old hh, addTo_old hh]
    have hpos : 0 < L.length := by have := idx_lt hh; omega
    obtain ⟨_, hin⟩ := row_shape h.row
    obtain ⟨g, c, e, hc⟩ := hin hpos
    have c0 := h.c
    rw [e] at c0
    exact (refNum_old R g c L s w c0 hc hL hh).mono fun e w' hq => ⟨hq.1, hq.2 ▸ RefLeft.same h⟩
  · have hh' : hasT L s = false := by simpa using hh
    by_cases hl : 40 < s.size
    · rw [numOf_long hh' hl, addTo_long hh' hl]
      exact (refNum_long R rv L s w h hL hl hs hh').mono fun e w' hq => ⟨hq.1, hq.2 ▸ RefLeft.same h⟩
    · rw [numOf_new hh' hl, addTo_new hh' hl]
      exact refNum_new R rv L s w h hL (by omega) hh'
end Go.Proofs.Ytfchkgihiclkkaa
