/-
  Texts by numbers, plainly: a list of texts, the map that reads as the numbers of its texts. No program in sight. No conditions.
-/
import Derived.Maps.OwnSet
import Derived.Maps.AppendAt
import Derived.WalkKit
namespace Go.Proofs.Ytfchkgihiclkkaa
open Go.RowKit Go.Maps

def keyL (s : ByteArray) : Lit := .string s.data.toList
theorem keyL_is (s : ByteArray) : WideAt.IsKeyLit (keyL s) := by simp [keyL, WideAt.IsKeyLit]
theorem keyL_inj {s t : ByteArray} (h : keyL s = keyL t) : s = t := by
  unfold keyL at h
  injection h with h
  exact ByteArray.ext (Array.ext' h)

/-- Are two texts the same? -/
def sameT (s t : ByteArray) : Bool := s.data.toList == t.data.toList
theorem sameT_iff (s t : ByteArray) : sameT s t = true ↔ s = t := by
  unfold sameT
  constructor
  · intro h; exact ByteArray.ext (Array.ext' (eq_of_beq h))
  · intro h; subst h; simp
theorem sameT_self (s : ByteArray) : sameT s s = true := (sameT_iff s s).2 rfl
theorem sameT_ne {s t : ByteArray} (h : s ≠ t) : sameT s t = false := by
  cases hb : sameT s t
  · rfl
  · exact absurd ((sameT_iff s t).1 hb) h
/-- Is the text in the list? Its place in the list. -/
def hasT (L : List ByteArray) (s : ByteArray) : Bool := L.any fun t => sameT t s
def idx (L : List ByteArray) (s : ByteArray) : Nat := L.findIdx fun t => sameT t s
theorem hasT_iff (L : List ByteArray) (s : ByteArray) : hasT L s = true ↔ s ∈ L := by
  unfold hasT
  rw [List.any_eq_true]
  constructor
  · rintro ⟨t, ht, hs⟩; rw [← (sameT_iff t s).1 hs]; exact ht
  · intro h; exact ⟨s, h, sameT_self s⟩
theorem hasT_snoc (L : List ByteArray) (t s : ByteArray) : hasT (L ++ [t]) s = (hasT L s || sameT t s) := by
  unfold hasT; simp
theorem idx_lt {L : List ByteArray} {s : ByteArray} (h : hasT L s = true) : idx L s < L.length := by
  unfold idx; exact List.findIdx_lt_length.2 (List.any_eq_true.1 h)
theorem idx_get {L : List ByteArray} {s : ByteArray} (h : hasT L s = true) : L[idx L s]'(idx_lt h) = s := by
  have := List.findIdx_getElem (p := fun t => sameT t s) (xs := L) (w := idx_lt h)
  exact (sameT_iff _ _).1 this
theorem idx_min {L : List ByteArray} {s : ByteArray} {i : Nat} (h : i < idx L s) (hi : i < L.length) : sameT (L[i]'hi) s = false := by
  have := List.not_of_lt_findIdx (p := fun t => sameT t s) (xs := L) h
  simpa using this
theorem idx_snoc_old {L : List ByteArray} {s t : ByteArray} (h : hasT L s = true) : idx (L ++ [t]) s = idx L s := by
  have hl := idx_lt h
  unfold idx at hl ⊢; rw [List.findIdx_append, if_pos hl]
theorem idx_miss {L : List ByteArray} {s : ByteArray} (h : hasT L s = false) : idx L s = L.length := by
  unfold idx
  rw [List.findIdx_eq_length]
  intro t ht
  cases hb : sameT t s
  · rfl
  · have h2 : hasT L s = true := by unfold hasT; exact List.any_eq_true.2 ⟨t, ht, hb⟩
    rw [h] at h2; cases h2
theorem idx_snoc_new {L : List ByteArray} {s : ByteArray} (h : hasT L s = false) : idx (L ++ [s]) s = L.length := by
  have hm := idx_miss h
  unfold idx at hm ⊢
  rw [List.findIdx_append, if_neg (by omega)]
  simp [List.findIdx_cons, sameT_self]

/-- The number that a text gets; the texts behind the call. -/
def numOf (L : List ByteArray) (s : ByteArray) : Int := if hasT L s = true then (idx L s : Int) else if 40 < s.size then -1 else (L.length : Int)
def addTo (L : List ByteArray) (s : ByteArray) : List ByteArray := if hasT L s = true then L else if 40 < s.size then L else L ++ [s]
theorem numOf_old {L : List ByteArray} {s : ByteArray} (h : hasT L s = true) : numOf L s = (idx L s : Int) := by unfold numOf; rw [if_pos h]
theorem numOf_long {L : List ByteArray} {s : ByteArray} (h : hasT L s = false) (h2 : 40 < s.size) : numOf L s = -1 := by unfold numOf; rw [if_neg (by simp [h]), if_pos h2]
theorem numOf_new {L : List ByteArray} {s : ByteArray} (h : hasT L s = false) (h2 : ¬ 40 < s.size) : numOf L s = (L.length : Int) := by unfold numOf; rw [if_neg (by simp [h]), if_neg h2]
theorem addTo_old {L : List ByteArray} {s : ByteArray} (h : hasT L s = true) : addTo L s = L := by unfold addTo; rw [if_pos h]
theorem addTo_long {L : List ByteArray} {s : ByteArray} (h : hasT L s = false) (h2 : 40 < s.size) : addTo L s = L := by unfold addTo; rw [if_neg (by simp [h]), if_pos h2]
theorem addTo_new {L : List ByteArray} {s : ByteArray} (h : hasT L s = false) (h2 : ¬ 40 < s.size) : addTo L s = L ++ [s] := by unfold addTo; rw [if_neg (by simp [h]), if_neg h2]
theorem addTo_length (L : List ByteArray) (s : ByteArray) : L.length ≤ (addTo L s).length ∧ (addTo L s).length ≤ L.length + 1 := by
  unfold addTo; split
  · omega
  · split
    · omega
    · simp

/-- The datum of a map that reads as the numbers of L's texts. -/
structure MapReads (D : DataW Unit) (L : List ByteArray) : Prop where
  isMap : IsMap D
  hit : ∀ s, has D (keyL s) = hasT L s
  num : ∀ s, hasT L s = true → D.atKey (keyL s) (.lit (.int .i64 0)) = .lit (.int .i64 (idx L s : Int))
theorem mapReads_nil : MapReads (.map []) [] := ⟨⟨[], rfl⟩, fun s => by simp [Go.Maps.has_eq, hasT], fun s h => by simp [hasT] at h⟩
theorem MapReads.add {D : DataW Unit} {L : List ByteArray} (h : MapReads D L) {s : ByteArray} (hs : hasT L s = false) : MapReads (D.put (keyL s) (.lit (.int .i64 (L.length : Int)))) (L ++ [s]) := by
  have other : ∀ t, t ≠ s → keyL t ≠ keyL s := fun t ht e => ht (keyL_inj e)
  refine ⟨h.isMap.put _ _, fun t => ?_, fun t ht => ?_⟩
  · by_cases e : t = s
    · subst e; rw [has_put_same h.isMap (keyL_is t), hasT_snoc, sameT_self]; simp
    · rw [has_put_other (other t e), h.hit t, hasT_snoc, sameT_ne (Ne.symm e)]; simp
  · by_cases e : t = s
    · subst e; rw [atKey_put_same h.isMap (keyL_is t), idx_snoc_new hs]
    · have : hasT L t = true := by rw [hasT_snoc, sameT_ne (Ne.symm e)] at ht; simpa using ht
      rw [atKey_put_other (other t e), h.num t this, idx_snoc_old this]

/-- A world whose blocks with p are as they were; no block has gone. -/
structure Kept (p : Nat → Prop) (w w' : World) : Prop where
  os : w'.os = w.os
  tape : w'.tape = w.tape
  output : w'.output = w.output
  size : w.heap.size ≤ w'.heap.size
  block : ∀ k, k < w.heap.size → p k → w'.heap[k]? = w.heap[k]?
theorem Kept.refl (p : Nat → Prop) (w : World) : Kept p w w := ⟨rfl, rfl, rfl, Nat.le_refl _, fun _ _ _ => rfl⟩
theorem Kept.trans {p : Nat → Prop} {a b c : World} (h : Kept p a b) (k : Kept p b c) : Kept p a c :=
  ⟨k.os.trans h.os, k.tape.trans h.tape, k.output.trans h.output, Nat.le_trans h.size k.size, fun i hi hp => (k.block i (Nat.lt_of_lt_of_le hi h.size) hp).trans (h.block i hi hp)⟩
theorem Kept.mono {p q : Nat → Prop} {a b : World} (h : Kept p a b) (hq : ∀ k, k < a.heap.size → q k → p k) : Kept q a b :=
  ⟨h.os, h.tape, h.output, h.size, fun i hi hp => h.block i hi (hq i hi hp)⟩
theorem Kept.drew {p : Nat → Prop} {a b : World} (h : Kept p a b) : Kept p a b.drew := ⟨h.os, h.tape, h.output, h.size, h.block⟩
theorem Kept.alloc {p : Nat → Prop} {a b : World} (h : Kept p a b) (o : Obj) : Kept p a (b.alloc o) :=
  h.trans ⟨rfl, rfl, rfl, by simp, fun k hk _ => Below.heap_alloc _ _ _ hk⟩
theorem Kept.setCell {p : Nat → Prop} {a b : World} (h : Kept p a b) {d : Addr} (hd : ¬ p d.block) (v : Value) : Kept p a (b.setCell d v) :=
  h.trans ⟨rfl, rfl, rfl, by simp [World.setCell], fun k _ hp => Below.heap_setCell _ _ _ _ (fun e => hd (e ▸ hp))⟩
theorem Kept.grown {p : Nat → Prop} {a b c : World} (h : Kept p a b) {row : Option Nat} (hg : b.grownBy c row) (hr : ∀ k, row = some k → k < a.heap.size → ¬ p k) : Kept p a c :=
  ⟨hg.os.trans h.os, hg.tape.trans h.tape, hg.output.trans h.output, Nat.le_trans h.size hg.size, fun k hk hp =>
    (hg.block k (Nat.lt_of_lt_of_le hk h.size) (fun e => hr k e.symm hk hp)).trans (h.block k hk hp)⟩
theorem Kept.cell {p : Nat → Prop} {a b : World} (h : Kept p a b) {d : Addr} {v : Value} (hc : a.cell? d = some v) (hp : p d.block) : b.cell? d = some v :=
  (World.cell?_of_block (h.block d.block (World.block_lt_of_cell? a d hc) hp)).trans hc
theorem Kept.frozen {p : Nat → Prop} {a b : World} (h : Kept p a b) {d : Addr} (hd : d.block < a.heap.size) (hp : p d.block) : b.frozen? d = a.frozen? d :=
  World.frozen?_of_block (h.block d.block hd hp)
theorem Kept.row {p : Nat → Prop} {a b : World} (h : Kept p a b) {base : Nat} {e : TypeId} {size : Nat} {v : Value} {n : Nat} {xs : List Value} (hr : a.ownsRow base e size v n xs) (hp : ∀ k, v.ownBlock = some k → p k) : b.ownsRow base e size v n xs := by
  have hlt := hr.lt
  obtain ⟨hl, hr⟩ := hr
  refine ⟨hl, ?_⟩
  rcases hr with h1 | ⟨g, cap, cur, rfl, hb, hh, hrest⟩
  · exact .inl h1
  · have hg : g < a.heap.size := (Array.getElem?_eq_some_iff.1 hh).1
    exact .inr ⟨g, cap, cur, rfl, hb, (h.block g hg (hp g rfl)).trans hh, hrest⟩
theorem Kept.ownsMap {p : Nat → Prop} {a b : World} (h : Kept p a b) {P : Program} {k : TypeId} {R : Value → Option (DataW Unit × List MemPlace)} {B n : Nat} {D : DataW Unit} (hm : a.ownsMap P k R B n D) (hp : p B) : b.ownsMap P k R B n D := by
  have hlt := hm.lt
  obtain ⟨es, clock, hb, F, hs, hD⟩ := hm
  exact ⟨es, clock, (h.block B hlt hp).trans hb, F, hs, hD⟩
theorem Kept.below {p : Nat → Prop} {a b : World} (h : Kept p a b) {B : Nat} (hB : B ≤ a.heap.size) (hp : ∀ k, k < B → p k) : Below B a b :=
  ⟨h.os, h.tape, h.output, h.size, fun k hk => h.block k (by omega) (hp k hk)⟩
theorem Below.toKept {B : Nat} {a b : World} (h : Below B a b) {p : Nat → Prop} (hp : ∀ k, k < a.heap.size → p k → k < B) : Kept p a b :=
  ⟨h.os, h.tape, h.output, h.size, fun k hk hq => h.block k (hp k hk hq)⟩
end Go.Proofs.Ytfchkgihiclkkaa
