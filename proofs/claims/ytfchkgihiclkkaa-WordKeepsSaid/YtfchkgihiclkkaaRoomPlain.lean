/-
  Plain laws of rooms: right plans, their sizes, what is grown, what is shrunk, as functions on Int. No program in sight. No conditions.
-/
import Derived.WalkKit
namespace Go.Proofs.Ytfchkgihiclkkaa
open Go.RowKit

def okP (l m : Int) : Bool := decide (16 ≤ l ∧ l ≤ m ∧ m ≤ 16384)
theorem okP_iff (l m : Int) : okP l m = true ↔ (16 ≤ l ∧ l ≤ m ∧ m ≤ 16384) := by unfold okP; exact decide_eq_true_iff
theorem okP_no (l m : Int) (h : ¬ (16 ≤ l ∧ l ≤ m ∧ m ≤ 16384)) : okP l m = false := by unfold okP; exact decide_eq_false h

/-! ### what is shrunk -/
def shrF (l v : Int) : Nat → Int → Int
  | 0, h => h
  | f + 1, h => if l ≤ h / 2 ∧ 4 * v < h then shrF l v f (h / 2) else h
theorem shrF_stop {l v : Int} (f : Nat) {h : Int} (hc : ¬ (l ≤ h / 2 ∧ 4 * v < h)) : shrF l v f h = h := by
  cases f with
  | zero => rfl
  | succ f => unfold shrF; rw [if_neg hc]
theorem shrF_enough {l v : Int} (hl : 1 ≤ l) : ∀ (f g : Nat) (h : Int), h.toNat ≤ f → h.toNat ≤ g → shrF l v f h = shrF l v g h
  | 0, g, h, hf, _ => by rw [shrF_stop 0 (by omega), shrF_stop g (by omega)]
  | f + 1, 0, h, _, hg => by rw [shrF_stop (f + 1) (by omega), shrF_stop 0 (by omega)]
  | f + 1, g + 1, h, hf, hg => by
    by_cases hc : l ≤ h / 2 ∧ 4 * v < h
    · unfold shrF; rw [if_pos hc, if_pos hc]; exact shrF_enough hl f g (h / 2) (by omega) (by omega)
    · rw [shrF_stop _ hc, shrF_stop _ hc]
/-- What is left of h words, of a right plan of least l, where v live. -/
def shr (l v h : Int) : Int := shrF l v h.toNat h
theorem shr_stop {l v h : Int} (hc : ¬ (l ≤ h / 2 ∧ 4 * v < h)) : shr l v h = h := shrF_stop _ hc
theorem shr_step {l v h : Int} (hl : 1 ≤ l) (hc : l ≤ h / 2 ∧ 4 * v < h) : shr l v h = shr l v (h / 2) := by
  unfold shr
  obtain ⟨f, hf⟩ : ∃ f, h.toNat = f + 1 := ⟨h.toNat - 1, by omega⟩
  rw [hf]
  show (if l ≤ h / 2 ∧ 4 * v < h then shrF l v f (h / 2) else h) = _
  rw [if_pos hc]
  exact shrF_enough hl f _ (h / 2) (by omega) (Nat.le_refl _)
theorem shrF_facts {l v : Int} (hl : 1 ≤ l) (hv : 0 ≤ v) : ∀ (f : Nat) (h : Int), h.toNat ≤ f → 0 ≤ h →
    shrF l v f h ≤ h ∧ 0 ≤ shrF l v f h ∧ min v h ≤ shrF l v f h ∧ min l h ≤ shrF l v f h ∧ ¬ (l ≤ shrF l v f h / 2 ∧ 4 * v < shrF l v f h)
  | 0, h, hf, h0 => by
    have e : shrF l v 0 h = h := rfl
    rw [e]; omega
  | f + 1, h, hf, h0 => by
    by_cases hc : l ≤ h / 2 ∧ 4 * v < h
    · have ih := shrF_facts hl hv f (h / 2) (by omega) (by omega)
      have e : shrF l v (f + 1) h = shrF l v f (h / 2) := by
        show (if l ≤ h / 2 ∧ 4 * v < h then shrF l v f (h / 2) else h) = _
        rw [if_pos hc]
      rw [e]
      generalize shrF l v f (h / 2) = r at ih ⊢
      obtain ⟨i1, i2, i3, i4, i5⟩ := ih
      refine ⟨by omega, i2, ?_, ?_, i5⟩ <;> omega
    · rw [shrF_stop _ hc]; omega
theorem shr_facts {l v h : Int} (hl : 1 ≤ l) (hv : 0 ≤ v) (h0 : 0 ≤ h) :
    shr l v h ≤ h ∧ 0 ≤ shr l v h ∧ min v h ≤ shr l v h ∧ min l h ≤ shr l v h ∧ ¬ (l ≤ shr l v h / 2 ∧ 4 * v < shr l v h) := shrF_facts hl hv _ h (Nat.le_refl _) h0
theorem shr_again {l v h : Int} (hl : 1 ≤ l) (hv : 0 ≤ v) (h0 : 0 ≤ h) : shr l v (shr l v h) = shr l v h := shr_stop (shr_facts hl hv h0).2.2.2.2
/-- Shrunk, of any plan and numbers. -/
def shrunk (l m h v : Int) : Int := if okP l m = true ∧ 0 ≤ h ∧ 0 ≤ v then shr l v h else h
theorem shrunk_yes {l m h v : Int} (hc : okP l m = true) (h0 : 0 ≤ h) (hv : 0 ≤ v) : shrunk l m h v = shr l v h := by unfold shrunk; rw [if_pos ⟨hc, h0, hv⟩]
theorem shrunk_no {l m h v : Int} (hc : ¬ (okP l m = true ∧ 0 ≤ h ∧ 0 ≤ v)) : shrunk l m h v = h := by unfold shrunk; rw [if_neg hc]

/-! ### a plan's sizes; what is grown -/
def sizesF : Nat → Int → Int → List Int
  | 0, _, m => [m]
  | f + 1, n, m => if n < m then n :: sizesF f (2 * n) m else [m]
/-- A right plan's sizes. -/
def sizesL (l m : Int) : List Int := sizesF 12 l m
theorem sizesF_ge : ∀ (f : Nat) (n m : Int), 0 ≤ n → n ≤ m → ∀ x ∈ sizesF f n m, n ≤ x ∧ x ≤ m
  | 0, n, m, _, h, x, hx => by
    have : x = m := by simpa [sizesF] using hx
    omega
  | f + 1, n, m, h0, h, x, hx => by
    unfold sizesF at hx
    split at hx
    · rcases List.mem_cons.1 hx with rfl | hx
      · omega
      · by_cases h2 : 2 * n ≤ m
        · have := sizesF_ge f (2 * n) m (by omega) h2 x hx; omega
        · have hs : sizesF f (2 * n) m = [m] := by
            cases f with
            | zero => rfl
            | succ f => unfold sizesF; rw [if_neg (by omega)]
          rw [hs] at hx
          have : x = m := by simpa using hx
          omega
    · have : x = m := by simpa using hx
      omega
theorem sizesF_last : ∀ (f : Nat) (n m : Int), m ∈ sizesF f n m
  | 0, n, m => by simp [sizesF]
  | f + 1, n, m => by
    unfold sizesF
    split
    · exact List.mem_cons_of_mem _ (sizesF_last f (2 * n) m)
    · simp
def firstGe (t : Int) (l : List Int) : Int := (l.find? fun n => decide (t ≤ n)).getD 0
theorem firstGe_cons (t x : Int) (l : List Int) : firstGe t (x :: l) = if t ≤ x then x else firstGe t l := by
  unfold firstGe
  rw [List.find?_cons]
  by_cases h : t ≤ x
  · rw [if_pos h]; simp [h]
  · rw [if_neg h]; simp [h]
theorem firstGe_mem {t : Int} : ∀ {l : List Int} {x : Int}, x ∈ l → t ≤ x → firstGe t l ∈ l ∧ t ≤ firstGe t l
  | y :: l, x, hx, ht => by
    rw [firstGe_cons]
    by_cases h : t ≤ y
    · rw [if_pos h]; exact ⟨by simp, h⟩
    · rw [if_neg h]
      rcases List.mem_cons.1 hx with rfl | hx
      · exact absurd ht h
      · have := firstGe_mem hx ht; exact ⟨List.mem_cons_of_mem _ this.1, this.2⟩
theorem firstGe_mono {t u : Int} (htu : t ≤ u) : ∀ (f : Nat) (n m : Int), 0 ≤ n → n ≤ m → u ≤ m → firstGe t (sizesF f n m) ≤ firstGe u (sizesF f n m)
  | 0, n, m, _, _, hu => by
    show firstGe t [m] ≤ firstGe u [m]
    rw [firstGe_cons, firstGe_cons, if_pos (by omega), if_pos hu]; omega
  | f + 1, n, m, h0, h, hu => by
    unfold sizesF
    split
    · rename_i hn
      rw [firstGe_cons, firstGe_cons]
      by_cases h1 : u ≤ n
      · rw [if_pos (by omega), if_pos h1]; omega
      · rw [if_neg h1]
        have hs := firstGe_mem (sizesF_last f (2 * n) m) hu
        by_cases h2 : 2 * n ≤ m
        · have hge := sizesF_ge f (2 * n) m (by omega) h2 _ hs.1
          by_cases h3 : t ≤ n
          · rw [if_pos h3]; omega
          · rw [if_neg h3]; exact firstGe_mono htu f (2 * n) m (by omega) h2 hu
        · have hz : sizesF f (2 * n) m = [m] := by
            cases f with
            | zero => rfl
            | succ f => unfold sizesF; rw [if_neg (by omega)]
          rw [hz, firstGe_cons, firstGe_cons, if_pos hu, if_pos (show t ≤ m by omega)]
          split <;> omega
    · rw [firstGe_cons, firstGe_cons, if_pos (by omega), if_pos hu]; omega
/-- Is there room? The size that has room. -/
def okG (l m h v w : Int) : Bool := decide (okP l m = true ∧ 0 ≤ h ∧ 0 ≤ v ∧ 0 ≤ w ∧ v + w ≤ m)
def tgt (m h v w : Int) : Int := max (v + w) (min h m)
def grown (l m h v w : Int) : Int := if okG l m h v w = true then firstGe (tgt m h v w) (sizesL l m) else 0
theorem okG_iff (l m h v w : Int) : okG l m h v w = true ↔ (okP l m = true ∧ 0 ≤ h ∧ 0 ≤ v ∧ 0 ≤ w ∧ v + w ≤ m) := by unfold okG; exact decide_eq_true_iff
theorem okG_no (l m h v w : Int) (hc : ¬ (okP l m = true ∧ 0 ≤ h ∧ 0 ≤ v ∧ 0 ≤ w ∧ v + w ≤ m)) : okG l m h v w = false := by unfold okG; exact decide_eq_false hc
theorem grown_yes {l m h v w : Int} (hc : okG l m h v w = true) : grown l m h v w = firstGe (tgt m h v w) (sizesL l m) := by unfold grown; rw [if_pos hc]
theorem grown_no {l m h v w : Int} (hc : okG l m h v w = false) : grown l m h v w = 0 := by unfold grown; rw [if_neg (by simp [hc])]
theorem tgt_le {m h v w : Int} (hc : v + w ≤ m) : tgt m h v w ≤ m := by unfold tgt; omega
theorem grown_facts {l m h v w : Int} (hc : okG l m h v w = true) : v + w ≤ grown l m h v w ∧ grown l m h v w ≤ m ∧ min h m ≤ grown l m h v w ∧ l ≤ grown l m h v w := by
  obtain ⟨hp, h0, h1, h2, h3⟩ := (okG_iff _ _ _ _ _).1 hc
  have hP := (okP_iff _ _).1 hp
  rw [grown_yes hc]
  have hs := firstGe_mem (t := tgt m h v w) (sizesF_last 12 l m) (tgt_le h3)
  have hg := sizesF_ge 12 l m (by omega) hP.2.1 _ hs.1
  have ht : tgt m h v w ≤ firstGe (tgt m h v w) (sizesL l m) := hs.2
  have hg' : l ≤ firstGe (tgt m h v w) (sizesL l m) ∧ firstGe (tgt m h v w) (sizesL l m) ≤ m := hg
  unfold tgt at ht ⊢
  unfold tgt at hg'
  omega
theorem grown_more {l m h v w : Int} (hc : okG l m h v (w + 1) = true) (hw : 0 ≤ w) : okG l m h v w = true ∧ grown l m h v w ≤ grown l m h v (w + 1) := by
  obtain ⟨hp, h0, h1, h2, h3⟩ := (okG_iff _ _ _ _ _).1 hc
  have hP := (okP_iff _ _).1 hp
  have hc' : okG l m h v w = true := (okG_iff _ _ _ _ _).2 ⟨hp, h0, h1, hw, by omega⟩
  refine ⟨hc', ?_⟩
  rw [grown_yes hc, grown_yes hc']
  exact firstGe_mono (by unfold tgt; omega) 12 l m (by omega) hP.2.1 (tgt_le h3)
end Go.Proofs.Ytfchkgihiclkkaa
