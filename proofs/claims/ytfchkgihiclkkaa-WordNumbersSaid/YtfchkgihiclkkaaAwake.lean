/-
  The walk of pigeonholelaw23.awake: the chapter's examples are as told; true, and nothing that was there has turned.
-/
import Derived.Test.YtfchkgihiclkkaaWalkA
import Derived.Test.YtfchkgihiclkkaaWalkB
namespace Go.Proofs.Ytfchkgihiclkkaa
open Go.RowKit Go.Maps

theorem make_a (w : World) : Calls Try.prog 31 #[.int .i64 1, .int .i64 (-1)] w fun e w' => e = .returned (.tuple #[.int .u64 18446744073709551609, .bool true]) ∧ w = w' :=
  (make_any _ _ w).mono fun _ _ hq => ⟨by rw [hq.1, mkW_yes (t := 1) (n := -1) (by decide), show okM 1 (-1) = true by decide]; rfl, hq.2⟩
theorem make_b (w : World) : Calls Try.prog 31 #[.int .i64 2, .int .i64 5] w fun e w' => e = .returned (.tuple #[.int .u64 42, .bool true]) ∧ w = w' :=
  (make_any _ _ w).mono fun _ _ hq => ⟨by rw [hq.1, mkW_yes (t := 2) (n := 5) (by decide), show okM 2 5 = true by decide]; rfl, hq.2⟩
theorem make_c (w : World) : Calls Try.prog 31 #[.int .i64 3, .int .i64 1] w fun e w' => e = .returned (.tuple #[.int .u64 0, .bool false]) ∧ w = w' :=
  (make_any _ _ w).mono fun _ _ hq => ⟨by rw [hq.1, mkW_no (t := 3) (n := 1) (by decide), show okM 3 1 = false by decide], hq.2⟩
theorem head_a (w : World) : Calls Try.prog 21 #[.int .i64 1, .int .i64 2] w fun e w' => e = .returned (.tuple #[.int .u64 520, .bool true]) ∧ w = w' :=
  (head_any _ _ w).mono fun _ _ hq => ⟨by rw [hq.1, headW_yes (k := 1) (s := 2) (by decide), show okH 1 2 = true by decide]; rfl, hq.2⟩
theorem split_a (w : World) : Calls Try.prog 23 #[.int .u64 520] w fun e w' => e = .returned (.tuple #[.int .i64 1, .int .i64 2, .bool true]) ∧ w = w' :=
  (split_any 520 (by omega) (by omega) w).mono fun _ _ hq => ⟨by rw [hq.1, kindI_yes (w := 520) (by decide), sizeI_yes (w := 520) (by decide), show headB 520 = true by decide]; rfl, hq.2⟩

def ta : ByteArray := ⟨#[97]⟩
def tb : ByteArray := ⟨#[98]⟩
theorem n1 : numOf [] ta = 0 := by decide +kernel
theorem n2 : numOf [ta] tb = 1 := by decide +kernel
theorem n3 : numOf [ta, tb] ta = 0 := by decide +kernel
theorem l1 : addTo [] ta = [ta] := by rfl
theorem l2 : addTo [ta] tb = [ta, tb] := by rfl
/-- What a call of Number leaves, told from a block on: nothing below N has turned; the object is there. -/
def Left (N : Nat) (L' : List ByteArray) (w w' : World) : Prop := Below N w w' ∧ ∃ sv, AtomsAt w' N sv L'
theorem NumLeft.left {N : Nat} {sv : Value} {L L' : List ByteArray} {w w' : World} (h : AtomsAt w N sv L) (hl : NumLeft N sv L' w w') : Left N L' w w' := by
  obtain ⟨sv', ha, hk, _⟩ := hl
  have hN : N < w.heap.size := h.m.elim fun D hD => hD.1.lt
  refine ⟨hk.below (by omega) (fun k hk' => ⟨by omega, by omega, fun e => ?_⟩), sv', ha⟩
  have := (h.row.lt k e.symm).1; omega
theorem num_left (N : Nat) (L : List ByteArray) (s : ByteArray) (w : World) (h : ∃ sv, AtomsAt w N sv L) (hs : s.size ≤ maxLen) (hL : L.length ≤ 1000) :
    Calls Try.prog 27 #[.pointer (some ⟨N + 1, 0, none⟩), .string s] w fun e w' => e = .returned (.int .i64 (numOf L s)) ∧ Left N (addTo L s) w w' := by
  obtain ⟨sv, h⟩ := h
  exact (num_any N sv L s w h hs hL).mono fun e w' hq => ⟨hq.1, hq.2.left h⟩
theorem num_1 (N : Nat) (w : World) (h : ∃ sv, AtomsAt w N sv []) : Calls Try.prog 27 #[.pointer (some ⟨N + 1, 0, none⟩), .string ⟨#[97]⟩] w fun e w' => e = .returned (.int .i64 0) ∧ Left N [ta] w w' :=
  (num_left N [] ta w h (by decide +kernel) (by decide)).mono fun _ _ hq => ⟨by rw [hq.1, n1], hq.2⟩
theorem num_2 (N : Nat) (w : World) (h : ∃ sv, AtomsAt w N sv [ta]) : Calls Try.prog 27 #[.pointer (some ⟨N + 1, 0, none⟩), .string ⟨#[98]⟩] w fun e w' => e = .returned (.int .i64 1) ∧ Left N [ta, tb] w w' :=
  (num_left N [ta] tb w h (by decide +kernel) (by decide)).mono fun _ _ hq => ⟨by rw [hq.1, n2], hq.2⟩
theorem num_3 (N : Nat) (w : World) (h : ∃ sv, AtomsAt w N sv [ta, tb]) : Calls Try.prog 27 #[.pointer (some ⟨N + 1, 0, none⟩), .string ⟨#[97]⟩] w fun e w' => e = .returned (.int .i64 0) ∧ Left N [ta, tb] w w' :=
  (num_left N [ta, tb] ta w h (by decide +kernel) (by decide)).mono fun _ _ hq => ⟨by rw [hq.1, n3], hq.2⟩
theorem new_left (w : World) : Calls Try.prog 26 #[] w fun e w' => e = .returned (.pointer (some ⟨w.heap.size + 1, 0, none⟩)) ∧ Left w.heap.size [] w w' :=
  (new_any w).mono fun e w' hq => ⟨hq.1, by rw [hq.2]; exact ⟨((Below.refl _ _).alloc (Nat.le_refl _) _).alloc (by simp) _, _, new_atoms w⟩⟩

set_option maxHeartbeats 800000 in
theorem awake_any (w : World) : Calls Try.prog 25 #[] w fun e w' => e = .returned (.bool true) ∧ Below w.heap.size w w' := by
  go_enter Try.func25, Try.ntmps25
  go_wp2_with fail
  refine (make_a _).mono ?_
  rintro e w' ⟨rfl, rfl⟩
  go_wp2_with fail
  refine (make_b _).mono ?_
  rintro e w' ⟨rfl, rfl⟩
  go_wp2_with fail
  refine (make_c _).mono ?_
  rintro e w' ⟨rfl, rfl⟩
  go_wp2_with fail
  refine (head_a _).mono ?_
  rintro e w' ⟨rfl, rfl⟩
  go_wp2_with fail
  refine (split_a _).mono ?_
  rintro e w' ⟨rfl, rfl⟩
  go_wp2_with fail
  refine (new_left _).mono ?_
  rintro e w1 ⟨rfl, h1⟩
  go_wp2_with fail
  refine (num_1 _ _ h1.2).mono ?_
  rintro e w2 ⟨rfl, h2⟩
  go_wp2_with fail
  refine (num_2 _ _ h2.2).mono ?_
  rintro e w3 ⟨rfl, h3⟩
  go_wp2_with fail
  refine (num_3 _ _ h3.2).mono ?_
  rintro e w4 ⟨rfl, h4⟩
  go_wp2_with fail
  go_ret
  exact ⟨rfl, ((h1.1.trans h2.1).trans h3.1).trans h4.1⟩
end Go.Proofs.Ytfchkgihiclkkaa
