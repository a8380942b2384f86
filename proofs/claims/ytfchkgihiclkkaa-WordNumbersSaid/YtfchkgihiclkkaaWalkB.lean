/-
  The walks of word.Atoms: NewAtoms, Number, Text. 'AtomsAt': the map lies in block N, the struct in block N + 1, the texts' row beyond.
-/
import Derived.Test.YtfchkgihiclkkaaRows
import Derived.Test.YtfchkgihiclkkaaTexts
import Derived.WalkKit
import Derived.WalkSpells
import Derived.WalkLawsBesides
import Derived.Lib.Hide
import Derived.Maps.StringElems
import Derived.Lib.SmallJoins
import Derived.StillTailTactics
namespace Go.Proofs.Ytfchkgihiclkkaa
open Go.RowKit Go.Maps
open Go.WideMaps (keyOf_string_mk)

theorem ret_i' {k : IntKind} {x y : Int} (h1 : x = y) : Ending.returned (.int k x) = Ending.returned (.int k y) := by rw [h1]
theorem law9 : Keyed Try.prog 9 := string_keyed Try.underlying9
theorem zero3 (w : World) : (zeroValue 3).run Try.prog w = .ok (.int .i64 0) w := by kernel_rfl

theorem cell_other (w : World) (a b : Addr) (v : Value) (h : a ≠ b) : (w.setCell a v).cell? b = w.cell? b := World.cell?_setCell_other _ _ _ _ h
theorem info9 : (Try.prog.info? 9).map (fun i => (i.zero, i.size, i.bytes)) = some (some (.string ⟨#[]⟩), 1, 16) := by kernel_rfl

structure AtomsAt (w : World) (N : Nat) (sv : Value) (L : List ByteArray) : Prop where
  c0 : w.cell? ⟨N + 1, 0, none⟩ = some (.map (some N))
  c1 : w.cell? ⟨N + 1, 1, none⟩ = some sv
  f1 : w.frozen? ⟨N + 1, 1, none⟩ = false
  m : ∃ D, w.ownsMap Try.prog 9 (plainElem Try.prog 3) N L.length D ∧ MapReads D L
  row : w.ownsRow (N + 2) 9 1 sv L.length (L.map Value.string)

/-- What a call of Number leaves: the texts are L'; beside the object's own blocks nothing has turned. -/
def NumLeft (N : Nat) (sv : Value) (L' : List ByteArray) (w w' : World) : Prop :=
  ∃ sv', AtomsAt w' N sv' L' ∧ Kept (fun k => k ≠ N ∧ k ≠ N + 1 ∧ some k ≠ sv.ownBlock) w w' ∧ (sv'.ownBlock = sv.ownBlock ∨ ∃ g, sv'.ownBlock = some g ∧ w.heap.size ≤ g)
theorem NumLeft.same {N : Nat} {sv : Value} {L : List ByteArray} {w : World} (h : AtomsAt w N sv L) : NumLeft N sv L w w := ⟨sv, h, Kept.refl _ _, .inl rfl⟩

set_option maxHeartbeats 400000 in
theorem num_old (N n : Nat) (D : DataW Unit) (s : ByteArray) (i : Nat) (w : World) (c0 : w.cell? ⟨N + 1, 0, none⟩ = some (.map (some N)))
    (hown : w.ownsMap Try.prog 9 (plainElem Try.prog 3) N n D) (hs : s.size ≤ maxLen) (hh : has D (keyL s) = true) (ha : D.atKey (keyL s) (.lit (.int .i64 0)) = .lit (.int .i64 (i : Int))) :
    Calls Try.prog 27 #[.pointer (some ⟨N + 1, 0, none⟩), .string s] w fun e w' => e = .returned (.int .i64 (i : Int)) ∧ w = w' := by
  have hkey : keyOf Try.prog 9 (.string s) = some (keyL s) := keyOf_string_mk Try.underlying9 hs
  have q52 : ∀ (w : World) (r : Option Nat), (binOp .eql 52 (.map r) (.map none)).run Try.prog w = .ok (.bool r.isNone) w := fun w r => run_eql_map_nil w _ _ _ r Try.underlying52
  have Ha := Lib.hid ha
  clear ha
  go_enter Try.func27, Try.ntmps27
  go_wp2_with (at_lookup; refine wpList_lookup_own_ok_int _ rfl _ _ 52 rfl 9 3 .i64 law9 Try.underlying52 Try.underlying3 (zero3 _) N n D rfl hown _ _ rfl hkey ?_; intro c hat hwc; have Hat := Lib.hid hat; clear hat)
  go_ret
  have e := Hat.out.symm.trans Ha.out
  have e2 : c = (i : Int) := by injection e with e; injection e
  exact ⟨ret_i' e2, rfl⟩
/-- The text is too long, and has no number. -/
theorem num_long (N n : Nat) (D : DataW Unit) (s : ByteArray) (w : World) (c0 : w.cell? ⟨N + 1, 0, none⟩ = some (.map (some N)))
    (hown : w.ownsMap Try.prog 9 (plainElem Try.prog 3) N n D) (hs : s.size ≤ maxLen) (hl : 40 < s.size) (hh : has D (keyL s) = false) :
    Calls Try.prog 27 #[.pointer (some ⟨N + 1, 0, none⟩), .string s] w fun e w' => e = .returned (.int .i64 (-1)) ∧ w = w' := by
  have hkey : keyOf Try.prog 9 (.string s) = some (keyL s) := keyOf_string_mk Try.underlying9 hs
  have q52 : ∀ (w : World) (r : Option Nat), (binOp .eql 52 (.map r) (.map none)).run Try.prog w = .ok (.bool r.isNone) w := fun w r => run_eql_map_nil w _ _ _ r Try.underlying52
  go_enter Try.func27, Try.ntmps27
  go_wp2_with (at_lookup; refine wpList_lookup_own_ok_int _ rfl _ _ 52 rfl 9 3 .i64 law9 Try.underlying52 Try.underlying3 (zero3 _) N n D rfl hown _ _ rfl hkey ?_; intro c hat hwc; have Hat := Lib.hid hat; clear hat)
  go_ret
  exact ⟨rfl, rfl⟩
set_option maxHeartbeats 400000 in
/-- The text is new: the map and the row take it. -/
theorem num_new (N : Nat) (L : List ByteArray) (sv : Value) (D : DataW Unit) (s : ByteArray) (w : World) (c0 : w.cell? ⟨N + 1, 0, none⟩ = some (.map (some N))) (c1 : w.cell? ⟨N + 1, 1, none⟩ = some sv)
    (f1 : w.frozen? ⟨N + 1, 1, none⟩ = false) (hown : w.ownsMap Try.prog 9 (plainElem Try.prog 3) N L.length D) (hrow : w.ownsRow (N + 2) 9 1 sv L.length (L.map Value.string))
    (hs : s.size ≤ maxLen) (hl : s.size ≤ 40) (hr : MapReads D L) (hh : hasT L s = false) (hL : L.length ≤ 1000) :
    Calls Try.prog 27 #[.pointer (some ⟨N + 1, 0, none⟩), .string s] w fun e w' => e = .returned (.int .i64 (L.length : Int)) ∧ NumLeft N sv (L ++ [s]) w w' := by
  have hkey : keyOf Try.prog 9 (.string s) = some (keyL s) := keyOf_string_mk Try.underlying9 hs
  have q52 : ∀ (w : World) (r : Option Nat), (binOp .eql 52 (.map r) (.map none)).run Try.prog w = .ok (.bool r.isNone) w := fun w r => run_eql_map_nil w _ _ _ r Try.underlying52
  have hlen : ∃ a n c, sv = .slice a n c ∧ n = L.length := by
    rcases hrow.2 with ⟨rfl, h⟩ | ⟨g, cap, cur, rfl, _⟩
    · exact ⟨_, _, _, rfl, h.symm⟩
    · exact ⟨_, _, _, rfl, rfl⟩
  obtain ⟨a, n, cp, rfl, hn⟩ := hlen
  have Hn := Lib.hid hn
  have hn2 : n ≤ 1000 := by omega
  have HH := Lib.hid hh
  have hmiss : has D (keyL s) = false := (hr.hit s).trans hh
  have Hr := Lib.hid hr
  clear hn hh hr
  go_enter Try.func27, Try.ntmps27
  go_wp2_with (at_lookup; refine wpList_lookup_own_ok_int _ rfl _ _ 52 rfl 9 3 .i64 law9 Try.underlying52 Try.underlying3 (zero3 _) N L.length D rfl hown _ _ rfl hkey ?_; intro c hat hwc; have Hat := Lib.hid hat; clear hat)
  go_still_tail 10, (by kernel_rfl)
  generalize hwd : ({ heap := w.heap, tape := w.tape, drawn := w.drawn + 1, os := w.os, output := w.output } : World) = wd
  have hk0 : Kept (· ≠ N) w wd := hwd ▸ (Kept.refl _ w).drew
  have hownd : wd.ownsMap Try.prog 9 (plainElem Try.prog 3) N L.length D := hwd ▸ hown.drew
  clear hwd hmiss
  refine wpList_mapUpdate_in _ rfl _ _ _ 52 rfl 9 3 law9 Try.underlying52 _ N L.length D rfl hownd (by unfold maxLen; omega) _ _ _ rfl rfl hkey _ [] (plainElem_int Try.underlying3 (WalkArith.wf_i64 (by omega))) ?_
  intro w1 hown1 hturn1
  have hk1 : Kept (· ≠ N) w w1 := hk0.grown hturn1.grown (fun k e _ h => h (by cases e; rfl))
  have hf := hk1.frozen (d := ⟨N + 1, 1, none⟩) (World.block_lt_of_cell? w _ c1) (by simp)
  have f1' : w1.frozen? ⟨N + 1, 1, none⟩ = false := hf.trans f1
  have c1' := hk1.cell c1 (by simp)
  have hrow1 := hk1.row hrow (fun k e => by have := (hrow.lt k e).1; omega)
  obtain ⟨i0, hi, hz0, hz1, hz2⟩ := info_parts info9
  have c0' := hk1.cell c0 (by simp)
  have hb1 : N + 1 < w1.heap.size := World.block_lt_of_cell? w1 _ c1'
  have hlt1 := hrow1.lt
  have hlt := hrow.lt
  have hsz : w.heap.size ≤ w1.heap.size := hk1.size
  clear c0 c1 f1 hf hown hrow hturn1 hownd hk0
  have Hm := Lib.hid hown1
  have C0 := Lib.hid c0'
  have F1 := Lib.hid f1'
  have C1 := Lib.hid c1'
  have HK1 := Lib.hid hk1
  have HL1 := Lib.hid hlt1
  have HL := Lib.hid hlt
  clear hown1 c0' hk1 hlt1 hlt f1'
  go_wp2_with (at_builtin; refine wpList_append_own_at _ rfl _ _ 42 rfl (N + 2) 9 i0 (.string ⟨#[]⟩) 1 16 Try.underlying42 hi hz0 hz1 hz2 rfl (by decide) _ _ _ rfl (hrow1.alloc _) ⟨w1.heap.size, 0, none⟩ 1 1 [.string s] rfl rfl (cell_one_new _ _ _) ?c2 ?c3 ?c4 ?c5 ?_)
  case c2 => simp [Value.oneCell']
  case c3 => unfold maxLen; omega
  case c4 => omega
  case c5 => simp; omega
  intro v' w2 hrow2 hgrow2 hne hat2
  obtain ⟨g, cap, rfl⟩ : ∃ g cap, v' = .slice (some ⟨g, 0, none⟩) (L.length + 1) cap := by
    rcases hrow2.2 with ⟨_, h⟩ | ⟨g, cap, cur, rfl, _⟩
    · omega
    · exact ⟨g, cap, rfl⟩
  clear hne c1' hrow1
  have hk2 : Kept (fun k => some k ≠ (Value.slice a n cp).ownBlock) w1 w2 := ((Kept.refl _ w1).alloc _).grown hgrow2 (fun k e _ h => h e.symm)
  have hrow0 : ∀ k, (Value.slice a n cp).ownBlock = some k → N + 2 ≤ k := fun k e => (HL.out k e).1
  have hne1 : some (N + 1) ≠ (Value.slice a n cp).ownBlock := fun e => by have := hrow0 _ e.symm; omega
  have c1'' : w2.cell? ⟨N + 1, 1, none⟩ = some (.slice a n cp) := hk2.cell C1.out hne1
  have f1'' : w2.frozen? ⟨N + 1, 1, none⟩ = false := (hk2.frozen (d := ⟨N + 1, 1, none⟩) hb1 hne1).trans F1.out
  have HR2 := Lib.hid hrow2
  have HG2 := Lib.hid hgrow2
  have HA2 := Lib.hid hat2
  have HK2 := Lib.hid hk2
  have HN1 := Lib.hid hne1
  have HR0 := Lib.hid hrow0
  clear hrow2 hgrow2 hat2 hk2 hne1 hrow0
  go_wp2_with fail
  go_ret
  refine ⟨ret_i' (by omega), ?_⟩
  have hnL : n = L.length := Hn.out
  subst hnL
  have hmap2 := HK2.out.ownsMap Hm.out (fun e => by have := HR0.out _ e.symm; omega)
  refine ⟨_, ⟨?_, World.cell?_setCell_same' _ _ _ (by rw [c1'']; rfl), by rw [World.frozen?_setCell]; exact f1'', ⟨_, ?_, Hr.out.add HH.out⟩, ?_⟩, ?_, ?_⟩
  · refine (cell_other w2 ⟨N + 1, 1, none⟩ ⟨N + 1, 0, none⟩ _ ?_).trans (HK2.out.cell C0.out HN1.out)
    intro e; injection e with _ e; cases e
  · rw [List.length_append]; exact hmap2.setCell (by simp) _
  · rw [List.map_append, List.length_append]; exact ownsRow_setCell_below HR2.out (by simp) _
  · have k1 : Kept (fun k => k ≠ N ∧ k ≠ N + 1 ∧ some k ≠ (Value.slice a L.length cp).ownBlock) w w1 := HK1.out.mono (fun k _ h => h.1)
    have k2 : Kept (fun k => k ≠ N ∧ k ≠ N + 1 ∧ some k ≠ (Value.slice a L.length cp).ownBlock) w1 w2 := HK2.out.mono (fun k _ h => h.2.2)
    exact (k1.trans k2).setCell (fun h => h.2.1 rfl) _
  · rcases HA2.out with h | h
    · exact .inl h
    · exact .inr ⟨_, h, by omega⟩

/-- Number, of an object that NewAtoms answered. -/
theorem num_any (N : Nat) (sv : Value) (L : List ByteArray) (s : ByteArray) (w : World) (h : AtomsAt w N sv L) (hs : s.size ≤ maxLen) (hL : L.length ≤ 1000) :
    Calls Try.prog 27 #[.pointer (some ⟨N + 1, 0, none⟩), .string s] w fun e w' => e = .returned (.int .i64 (numOf L s)) ∧ NumLeft N sv (addTo L s) w w' := by
  obtain ⟨D, hown, hr⟩ := h.m
  by_cases hh : hasT L s = true
  · rw [numOf_old hh, addTo_old hh]
    exact (num_old N L.length D s (idx L s) w h.c0 hown hs ((hr.hit s).trans hh) (hr.num s hh)).mono fun e w' hq => ⟨hq.1, hq.2 ▸ NumLeft.same h⟩
  · have hh' : hasT L s = false := by simpa using hh
    by_cases hl : 40 < s.size
    · rw [numOf_long hh' hl, addTo_long hh' hl]
      exact (num_long N L.length D s w h.c0 hown hs hl ((hr.hit s).trans hh')).mono fun e w' hq => ⟨hq.1, hq.2 ▸ NumLeft.same h⟩
    · rw [numOf_new hh' hl, addTo_new hh' hl]
      exact num_new N L sv D s w h.c0 h.c1 h.f1 hown h.row hs (by omega) hr hh' hL

/-! ### NewAtoms, Text, the nil object, the empty one -/
set_option maxHeartbeats 400000 in
theorem new_any (w : World) :
    Calls Try.prog 26 #[] w fun e w' => e = .returned (.pointer (some ⟨w.heap.size + 1, 0, none⟩)) ∧ w' = (w.alloc (.map #[] 0)).alloc (.cells #[.map (some w.heap.size), .slice none 0 0] 54) := by
  have hmm := @run_makeMap Try.prog
  go_enter Try.func26, Try.ntmps26
  go_wp2
  go_ret
  exact ⟨rfl, rfl⟩
theorem new_atoms (w : World) : AtomsAt ((w.alloc (.map #[] 0)).alloc (.cells #[.map (some w.heap.size), .slice none 0 0] 54)) w.heap.size (.slice none 0 0) [] := by
  have hm : (w.alloc (.map #[] 0)).ownsMap Try.prog 9 (plainElem Try.prog 3) w.heap.size 0 (.map [] : DataW Unit) := World.ownsMap_made w _ _ _
  refine ⟨?_, ?_, ?_, ⟨_, hm.alloc _, mapReads_nil⟩, World.ownsRow_nil _ _ _ _⟩
  · have e := World.cell?_alloc_new (w.alloc (.map #[] 0)) #[.map (some w.heap.size), .slice none 0 0] 54 0
    rw [World.size_alloc] at e; rw [e]; rfl
  · have e := World.cell?_alloc_new (w.alloc (.map #[] 0)) #[.map (some w.heap.size), .slice none 0 0] 54 1
    rw [World.size_alloc] at e; rw [e]; rfl
  · have e := World.frozen?_alloc_new (w.alloc (.map #[] 0)) #[.map (some w.heap.size), .slice none 0 0] 54 1
    rw [World.size_alloc] at e; exact e
end Go.Proofs.Ytfchkgihiclkkaa
