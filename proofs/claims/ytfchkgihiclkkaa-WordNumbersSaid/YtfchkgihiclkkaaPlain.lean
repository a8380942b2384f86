/-
  Plain laws of words and tags: what Make, Tag, Number, Head and Split compute, as functions on Int. No program in sight. No conditions.
-/
import Derived.WalkKit
namespace Go.Proofs.Ytfchkgihiclkkaa
open Go.RowKit

/-! ### bits -/
theorem or_add (i : Nat) (x t : Int) (hx : 0 ≤ x) (hx8 : x % (2 ^ i : Nat) = 0) (hx2 : x < 18446744073709551616) (ht : 0 ≤ t) (ht' : t < (2 ^ i : Nat)) (ht2 : t < 18446744073709551616) :
    bits .or .u64 x t = x + t := by
  rw [u64_or x t hx hx2 ht ht2]
  obtain ⟨X, rfl⟩ := Int.eq_ofNat_of_zero_le hx
  obtain ⟨T, rfl⟩ := Int.eq_ofNat_of_zero_le ht
  have h1 : X % 2 ^ i = 0 := by exact_mod_cast hx8
  have h2 : T < 2 ^ i := by exact_mod_cast ht'
  obtain ⟨q, rfl⟩ := Nat.dvd_of_mod_eq_zero h1
  show ((2 ^ i * q ||| T : Nat) : Int) = _
  rw [← Nat.two_pow_add_eq_or_of_lt h2 q]
  push_cast
  rfl
theorem or8 (x t : Int) (hx : 0 ≤ x) (hx8 : x % 8 = 0) (hx2 : x < 18446744073709551616) (ht : 0 ≤ t) (ht' : t < 8) : bits .or .u64 x t = x + t :=
  or_add 3 x t hx (by simpa using hx8) hx2 ht (by simpa using ht') (by omega)
theorem or256 (x t : Int) (hx : 0 ≤ x) (hx8 : x % 256 = 0) (hx2 : x < 18446744073709551616) (ht : 0 ≤ t) (ht' : t < 256) : bits .or .u64 x t = x + t :=
  or_add 8 x t hx (by simpa using hx8) hx2 ht (by simpa using ht') (by omega)
theorem and7 (x : Int) (hx : 0 ≤ x) (hx2 : x < 18446744073709551616) : bits .and .u64 x 7 = x % 8 := by
  rw [u64_and x 7 hx hx2 (by omega) (by omega)]
  obtain ⟨X, rfl⟩ := Int.eq_ofNat_of_zero_le hx
  have := Nat.and_two_pow_sub_one_eq_mod X 3
  show ((X &&& 7 : Nat) : Int) = _
  rw [show X &&& 7 = X % 8 from this]
  simp
theorem and31 (x : Int) (hx : 0 ≤ x) (hx2 : x < 18446744073709551616) : bits .and .u64 x 31 = x % 32 := by
  rw [u64_and x 31 hx hx2 (by omega) (by omega)]
  obtain ⟨X, rfl⟩ := Int.eq_ofNat_of_zero_le hx
  have := Nat.and_two_pow_sub_one_eq_mod X 5
  show ((X &&& 31 : Nat) : Int) = _
  rw [show X &&& 31 = X % 32 from this]
  simp

/-! ### tagged words -/
/-- Is there a word of tag t and number n? -/
def okM (t n : Int) : Bool := decide ((t = 1 ∧ -1152921504606846976 ≤ n ∧ n < 1152921504606846976) ∨ (t = 3 ∧ n = 0) ∨ ((t = 2 ∨ (4 ≤ t ∧ t ≤ 7)) ∧ 0 ≤ n ∧ n < 1152921504606846976))
/-- The word of tag t and number n; 0, if there is none. -/
def mkW (t n : Int) : Int := if okM t n = true then n * 8 % 18446744073709551616 + t else 0
theorem okM_iff (t n : Int) : okM t n = true ↔ ((t = 1 ∧ -1152921504606846976 ≤ n ∧ n < 1152921504606846976) ∨ (t = 3 ∧ n = 0) ∨ ((t = 2 ∨ (4 ≤ t ∧ t ≤ 7)) ∧ 0 ≤ n ∧ n < 1152921504606846976)) := by
  unfold okM; exact decide_eq_true_iff
theorem okM_no (t n : Int) (h : ¬ ((t = 1 ∧ -1152921504606846976 ≤ n ∧ n < 1152921504606846976) ∨ (t = 3 ∧ n = 0) ∨ ((t = 2 ∨ (4 ≤ t ∧ t ≤ 7)) ∧ 0 ≤ n ∧ n < 1152921504606846976))) : okM t n = false := by
  unfold okM; exact decide_eq_false h
theorem mkW_yes {t n : Int} (h : okM t n = true) : mkW t n = n * 8 % 18446744073709551616 + t := by unfold mkW; rw [if_pos h]
theorem mkW_no {t n : Int} (h : okM t n = false) : mkW t n = 0 := by unfold mkW; rw [if_neg (by simp [h])]
theorem mkW_range (t n : Int) : 0 ≤ mkW t n ∧ mkW t n < 18446744073709551616 := by
  by_cases h : okM t n = true
  · rw [mkW_yes h]; have := (okM_iff t n).1 h; omega
  · rw [mkW_no (by simpa using h)]; omega
/-- The number that a word would have. -/
def numP (w : Int) : Int := if w / 8 < 1152921504606846976 then w / 8 else w / 8 - 2305843009213693952
theorem numP_low {w : Int} (h : w / 8 < 1152921504606846976) : numP w = w / 8 := by unfold numP; rw [if_pos h]
theorem numP_high {w : Int} (h : ¬ w / 8 < 1152921504606846976) : numP w = w / 8 - 2305843009213693952 := by unfold numP; rw [if_neg h]
theorem numP_range {w : Int} (h0 : 0 ≤ w) (h1 : w < 18446744073709551616) : -1152921504606846976 ≤ numP w ∧ numP w < 1152921504606846976 := by
  by_cases h : w / 8 < 1152921504606846976
  · rw [numP_low h]; omega
  · rw [numP_high h]; omega
/-- Is the word tagged? -/
def tagB (w : Int) : Bool := okM (w % 8) (numP w)
def tagI (w : Int) : Int := if tagB w = true then w % 8 else 0
def numI (w : Int) : Int := if tagB w = true then numP w else 0
/-- What a word would be made of makes that word again. -/
theorem mk_parts {w : Int} (h0 : 0 ≤ w) (h1 : w < 18446744073709551616) (h : tagB w = true) : mkW (w % 8) (numP w) = w := by
  rw [mkW_yes h]
  by_cases h : w / 8 < 1152921504606846976
  · rw [numP_low h]; omega
  · rw [numP_high h]; omega
theorem mkW_mod {t n : Int} (h : okM t n = true) : mkW t n % 8 = t := by
  rw [mkW_yes h]; have := (okM_iff t n).1 h; omega
theorem mkW_num {t n : Int} (h : okM t n = true) : numP (mkW t n) = n := by
  rw [mkW_yes h]
  have H := (okM_iff t n).1 h
  by_cases hn : 0 ≤ n
  · rw [numP_low (by omega)]; omega
  · rw [numP_high (by omega)]; omega
theorem mkW_tagB {t n : Int} (h : okM t n = true) : tagB (mkW t n) = true := by
  unfold tagB; rw [mkW_mod h, mkW_num h]; exact h
theorem tagI_mk {t n : Int} (h : okM t n = true) : tagI (mkW t n) = t := by unfold tagI; rw [if_pos (mkW_tagB h), mkW_mod h]
theorem numI_mk {t n : Int} (h : okM t n = true) : numI (mkW t n) = n := by unfold numI; rw [if_pos (mkW_tagB h), mkW_num h]
theorem tagI_yes {w : Int} (h : tagB w = true) : tagI w = w % 8 := by unfold tagI; rw [if_pos h]
theorem tagI_no {w : Int} (h : tagB w = false) : tagI w = 0 := by unfold tagI; rw [if_neg (by simp [h])]
theorem numI_yes {w : Int} (h : tagB w = true) : numI w = numP w := by unfold numI; rw [if_pos h]
theorem numI_no {w : Int} (h : tagB w = false) : numI w = 0 := by unfold numI; rw [if_neg (by simp [h])]
theorem tagI_range (w : Int) : 0 ≤ tagI w ∧ tagI w ≤ 7 := by
  by_cases h : tagB w = true
  · rw [tagI_yes h]; omega
  · rw [tagI_no (by simpa using h)]; omega

/-! ### heads -/
def okH (k s : Int) : Bool := decide (1 ≤ k ∧ k ≤ 3 ∧ 0 ≤ s ∧ s ≤ 1048576)
def headW (k s : Int) : Int := if okH k s = true then s * 256 + k * 8 else 0
theorem okH_iff (k s : Int) : okH k s = true ↔ (1 ≤ k ∧ k ≤ 3 ∧ 0 ≤ s ∧ s ≤ 1048576) := by unfold okH; exact decide_eq_true_iff
theorem okH_no (k s : Int) (h : ¬ (1 ≤ k ∧ k ≤ 3 ∧ 0 ≤ s ∧ s ≤ 1048576)) : okH k s = false := by unfold okH; exact decide_eq_false h
theorem headW_yes {k s : Int} (h : okH k s = true) : headW k s = s * 256 + k * 8 := by unfold headW; rw [if_pos h]
theorem headW_no {k s : Int} (h : okH k s = false) : headW k s = 0 := by unfold headW; rw [if_neg (by simp [h])]
/-- Is the word a head? -/
def headB (w : Int) : Bool := decide (w % 8 = 0 ∧ 1 ≤ w / 8 % 32 ∧ w / 8 % 32 ≤ 3 ∧ w / 256 ≤ 1048576)
def kindI (w : Int) : Int := if headB w = true then w / 8 % 32 else 0
def sizeI (w : Int) : Int := if headB w = true then w / 256 else 0
theorem headB_iff (w : Int) : headB w = true ↔ (w % 8 = 0 ∧ 1 ≤ w / 8 % 32 ∧ w / 8 % 32 ≤ 3 ∧ w / 256 ≤ 1048576) := by unfold headB; exact decide_eq_true_iff
theorem headB_no (w : Int) (h : ¬ (w % 8 = 0 ∧ 1 ≤ w / 8 % 32 ∧ w / 8 % 32 ≤ 3 ∧ w / 256 ≤ 1048576)) : headB w = false := by unfold headB; exact decide_eq_false h
theorem kindI_yes {w : Int} (h : headB w = true) : kindI w = w / 8 % 32 := by unfold kindI; rw [if_pos h]
theorem kindI_no {w : Int} (h : headB w = false) : kindI w = 0 := by unfold kindI; rw [if_neg (by simp [h])]
theorem sizeI_yes {w : Int} (h : headB w = true) : sizeI w = w / 256 := by unfold sizeI; rw [if_pos h]
theorem sizeI_no {w : Int} (h : headB w = false) : sizeI w = 0 := by unfold sizeI; rw [if_neg (by simp [h])]
/-- No word is tagged and a head. -/
theorem not_both {w : Int} (h : tagB w = true) : headB w = false := by
  have H := (okM_iff _ _).1 h
  exact headB_no w (by omega)
theorem head_parts {w : Int} (h0 : 0 ≤ w) (h : headB w = true) : okH (kindI w) (sizeI w) = true ∧ headW (kindI w) (sizeI w) = w := by
  have H := (headB_iff w).1 h
  have h2 : okH (kindI w) (sizeI w) = true := by rw [okH_iff, kindI_yes h, sizeI_yes h]; omega
  refine ⟨h2, ?_⟩
  rw [headW_yes h2, kindI_yes h, sizeI_yes h]; omega
end Go.Proofs.Ytfchkgihiclkkaa
