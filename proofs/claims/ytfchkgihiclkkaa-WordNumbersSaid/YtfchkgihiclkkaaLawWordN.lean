/-
  The walk of WordNumbers: each call of WordTags, WordHeads, WordAtoms hands back true.
-/
import Derived.Test.YtfchkgihiclkkaaLawTags
import Derived.Test.YtfchkgihiclkkaaLawAtoms
import Derived.Deep.RegionHeld3
import Derived.OpenShut
namespace Go.Proofs.Ytfchkgihiclkkaa
open Go.RowKit

/-- The numbers and the sizes that the statement lists. -/
def nv (j : Nat) : Int := [-9223372036854775808, -1152921504606846977, -1152921504606846976, -1, 0, 1, 1152921504606846975, 1152921504606846976, 9223372036854775807].getD j 0
def zv (j : Nat) : Int := [-9223372036854775808, -1, 0, 1, 1048576, 1048577, 72057594037927936, 9223372036854775807].getD j 0
theorem nv_wf (j : Nat) : (Lit.int .i64 (nv j)).wf = true := by
  match j with
  | 0 | 1 | 2 | 3 | 4 | 5 | 6 | 7 | 8 => decide
  | j + 9 => rfl
theorem zv_wf (j : Nat) : (Lit.int .i64 (zv j)).wf = true := by
  match j with
  | 0 | 1 | 2 | 3 | 4 | 5 | 6 | 7 => decide
  | j + 8 => rfl
/-- Block B holds the numbers, block B + 1 the sizes; what lay when the call began lies as it lay. -/
structure ListsAt (B : Nat) (w W : World) : Prop where
  n : ∀ j, j < 9 → W.cell? ⟨B, j, none⟩ = some (.int .i64 (nv j))
  z : ∀ j, j < 8 → W.cell? ⟨B + 1, j, none⟩ = some (.int .i64 (zv j))
  below : Below w.heap.size w W
theorem ListsAt.keep {B : Nat} {w W V : World} (h : ListsAt B w W) (hb : Below W.heap.size W V) : ListsAt B w V :=
  ⟨fun j hj => (hb.cell (p := ⟨B, j, none⟩) (World.block_lt_of_cell? W _ (h.n j hj))).trans (h.n j hj), fun j hj => (hb.cell (p := ⟨B + 1, j, none⟩) (World.block_lt_of_cell? W _ (h.z j hj))).trans (h.z j hj), h.below.trans (hb.mono h.below.size)⟩
theorem ListsAt.drew {B : Nat} {w W : World} (h : ListsAt B w W) : ListsAt B w W.drew := ⟨h.n, h.z, h.below.drew⟩
theorem lists_start (w : World) : ListsAt w.heap.size w ((w.alloc (.cells #[.int .i64 (-9223372036854775808), .int .i64 (-1152921504606846977), .int .i64 (-1152921504606846976), .int .i64 (-1), .int .i64 0, .int .i64 1, .int .i64 1152921504606846975, .int .i64 1152921504606846976, .int .i64 9223372036854775807] 2)).alloc
    (.cells #[.int .i64 (-9223372036854775808), .int .i64 (-1), .int .i64 0, .int .i64 1, .int .i64 1048576, .int .i64 1048577, .int .i64 72057594037927936, .int .i64 9223372036854775807] 3)) := by
  have hk := (Kept.refl (fun _ => True) (w.alloc (.cells #[.int .i64 (-9223372036854775808), .int .i64 (-1152921504606846977), .int .i64 (-1152921504606846976), .int .i64 (-1), .int .i64 0, .int .i64 1, .int .i64 1152921504606846975, .int .i64 1152921504606846976, .int .i64 9223372036854775807] 2))).alloc (.cells #[.int .i64 (-9223372036854775808), .int .i64 (-1), .int .i64 0, .int .i64 1, .int .i64 1048576, .int .i64 1048577, .int .i64 72057594037927936, .int .i64 9223372036854775807] 3)
  refine ⟨fun j hj => hk.cell ?_ trivial, fun j hj => ?_, ((Below.refl _ _).alloc (Nat.le_refl _) _).alloc (by simp) _⟩
  · rw [World.cell?_alloc_new]
    match j, hj with
    | 0, _ | 1, _ | 2, _ | 3, _ | 4, _ | 5, _ | 6, _ | 7, _ | 8, _ => rfl
  · have e := World.cell?_alloc_new (w.alloc (.cells #[.int .i64 (-9223372036854775808), .int .i64 (-1152921504606846977), .int .i64 (-1152921504606846976), .int .i64 (-1), .int .i64 0, .int .i64 1, .int .i64 1152921504606846975, .int .i64 1152921504606846976, .int .i64 9223372036854775807] 2)) #[.int .i64 (-9223372036854775808), .int .i64 (-1), .int .i64 0, .int .i64 1, .int .i64 1048576, .int .i64 1048577, .int .i64 72057594037927936, .int .i64 9223372036854775807] 3 j
    simp only [World.size_alloc] at e
    rw [e]
    match j, hj with
    | 0, _ | 1, _ | 2, _ | 3, _ | 4, _ | 5, _ | 6, _ | 7, _ => rfl
theorem lists_all {w W : World} (h : ListsAt w.heap.size w W) (i : Nat) (hi : i < 9) : W.cell? ⟨w.heap.size, i, none⟩ = some (.int .i64 (nv i)) ∧ W.cell? ⟨w.heap.size + 1, i % 8, none⟩ = some (.int .i64 (zv (i % 8))) ∧ ListsAt w.heap.size w W := ⟨h.n i hi, h.z _ (Nat.mod_lt _ (by decide)), h⟩
theorem tags_lists (i : Nat) (hi : i < 9) (a b c : Int) (ha : (Lit.int .i64 a).wf = true) (hb : (Lit.int .i64 b).wf = true) (hc : (Lit.int .u64 c).wf = true) (w W : World) (h : W.cell? ⟨w.heap.size, i, none⟩ = some (.int .i64 (nv i)) ∧ W.cell? ⟨w.heap.size + 1, i % 8, none⟩ = some (.int .i64 (zv (i % 8))) ∧ ListsAt w.heap.size w W) :
    Calls Try.prog 10 #[.int .i64 a, .int .i64 b, .int .u64 c] W fun r V => r = .returned (.bool true) ∧ V.cell? ⟨w.heap.size, i, none⟩ = some (.int .i64 (nv i)) ∧ V.cell? ⟨w.heap.size + 1, i % 8, none⟩ = some (.int .i64 (zv (i % 8))) ∧ ListsAt w.heap.size w V :=
  (tags_any a b c ha hb hc W).mono fun _ _ hq => ⟨hq.1, lists_all (h.2.2.keep hq.2) i hi⟩
theorem heads_lists (i : Nat) (hi : i < 9) (a b c : Int) (ha : (Lit.int .i64 a).wf = true) (hb : (Lit.int .i64 b).wf = true) (hc : (Lit.int .u64 c).wf = true) (w W : World) (h : W.cell? ⟨w.heap.size, i, none⟩ = some (.int .i64 (nv i)) ∧ W.cell? ⟨w.heap.size + 1, i % 8, none⟩ = some (.int .i64 (zv (i % 8))) ∧ ListsAt w.heap.size w W) :
    Calls Try.prog 6 #[.int .i64 a, .int .i64 b, .int .u64 c] W fun r V => r = .returned (.bool true) ∧ V.cell? ⟨w.heap.size, i, none⟩ = some (.int .i64 (nv i)) ∧ V.cell? ⟨w.heap.size + 1, i % 8, none⟩ = some (.int .i64 (zv (i % 8))) ∧ ListsAt w.heap.size w V :=
  (heads_any a b c ha hb hc W).mono fun _ _ hq => ⟨hq.1, lists_all (h.2.2.keep hq.2) i hi⟩
theorem headW_range (k s : Int) : 0 ≤ headW k s ∧ headW k s < 18446744073709551616 := by
  by_cases h : okH k s = true
  · rw [headW_yes h]; have := (okH_iff k s).1 h; omega
  · rw [headW_no (by simpa using h)]; omega
theorem mod8 (a : Nat) : ((a : Int)).tmod 8 = (a : Int) % 8 ∧ 0 ≤ (a : Int) % 8 ∧ (a : Int) % 8 < 8 ∧ ((a : Int) % 8).toNat = a % 8 ∧ IntKind.i64.wrap ((a : Int) % 8) = (a : Int) % 8 := by
  refine ⟨Int.tmod_eq_emod_of_nonneg (by omega), by omega, by omega, by omega, IntWalk.i64_in _ (by omega)⟩
/-- The 41 bytes that make([]byte, 41) lays; the text of them. -/
def zeros41 : Array Value := Array.replicate 41 (.int .u8 0)
def long41 : ByteArray := (List.replicate 41 (0 : Int)).foldl (fun r n => r.push (UInt8.ofNat n.toNat)) ByteArray.empty
theorem long41_size : long41.size = 41 := by decide +kernel
theorem make41 (w : World) : (Instr.makeSlice 63 (.int .i64 41) (.int .i64 41)).run Try.prog w = .ok (.slice (some ⟨w.heap.size, 0, none⟩) 41 41) (w.alloc (.cells zeros41 5)) := by kernel_rfl
theorem conv41 (w : World) : (convert 63 9 (.slice (some ⟨w.heap.size, 0, none⟩) 41 41)).run Try.prog (w.alloc (.cells zeros41 5)) = .ok (.string long41) (w.alloc (.cells zeros41 5)) := by
  rw [run_convert_bytes_string _ 63 9 5 _ 41 41 Try.underlying63 Try.underlying5 Try.underlying9]
  refine run_bytesToString _ _ 41 41 (List.replicate 41 0) ?_
  have h := run_loadCells_list (P := Try.prog) (w.alloc (.cells zeros41 5)) ⟨w.heap.size, 0, none⟩ (List.replicate 41 (Value.int .u8 0)) (fun j v hj => by
    have e : ((⟨w.heap.size, 0, none⟩ : Addr).add j) = ⟨w.heap.size, j, none⟩ := by simp [Addr.add]; omega
    rw [e, World.cell?_alloc_new]
    unfold zeros41
    rw [← hj, List.getElem?_replicate, Array.getElem?_replicate])
  rw [List.length_replicate] at h
  rw [List.map_replicate]; exact h
theorem atoms9 (s0 s1 s2 s3 s4 s5 s6 s7 s8 : ByteArray) (h0 : s0.size ≤ maxLen) (h1 : s1.size ≤ maxLen) (h2 : s2.size ≤ maxLen) (h3 : s3.size ≤ maxLen) (h4 : s4.size ≤ maxLen) (h5 : s5.size ≤ maxLen) (h6 : s6.size ≤ maxLen) (h7 : s7.size ≤ maxLen) (h8 : s8.size ≤ maxLen) (w W : World) (hB : Below w.heap.size w W) :
    Calls Try.prog 7 #[.slice (some ⟨W.heap.size, 0, none⟩) 9 9, .int .i64 4] (W.alloc (.cells #[.string s0, .string s1, .string s2, .string s3, .string s4, .string s5, .string s6, .string s7, .string s8] 9)).drew fun e V => e = .returned (.bool true) ∧ Below w.heap.size w V := by
  refine (atoms_small W.heap.size 0 9 9 (fun i => [s0, s1, s2, s3, s4, s5, s6, s7, s8].getD i ⟨#[]⟩) 4 _ (by decide) (by show _ < (W.alloc _).heap.size; simp) (fun i hi => ?_) (fun i hi => ?_)).mono fun e V hq => ⟨hq.1, (hB.alloc hB.size _).drew.trans (hq.2.mono (by have := hB.size; show _ ≤ (W.alloc _).heap.size; simp; omega))⟩
  · rw [Nat.zero_add]
    have e := World.cell?_alloc_new W #[.string s0, .string s1, .string s2, .string s3, .string s4, .string s5, .string s6, .string s7, .string s8] 9 i
    show (W.alloc _).cell? _ = _
    rw [e]
    match i, hi with
    | 0, _ | 1, _ | 2, _ | 3, _ | 4, _ | 5, _ | 6, _ | 7, _ | 8, _ => rfl
  · match i, hi with
    | 0, _ => exact h0
    | 1, _ => exact h1
    | 2, _ => exact h2
    | 3, _ => exact h3
    | 4, _ => exact h4
    | 5, _ => exact h5
    | 6, _ => exact h6
    | 7, _ => exact h7
    | 8, _ => exact h8
theorem long1_size : (long41.extract 1 41).size = 40 := by decide +kernel
theorem awakeB (w W : World) (hB : Below w.heap.size w W) : Calls Try.prog 25 #[] W fun e V => e = .returned (.bool true) ∧ Below w.heap.size w V :=
  (awake_any W).mono fun _ _ hq => ⟨hq.1, hB.trans (hq.2.mono hB.size)⟩
set_option maxRecDepth 100000 in
set_option maxHeartbeats 4000000 in
theorem wordNumbers_any (w : World) : Calls Try.prog 12 #[] w fun e w' => e = .returned (.bool true) ∧ Below w.heap.size w w' := by
  have HST := Lib.hid (lists_start w)
  go_enter Try.func12, Try.ntmps12
  go_wp2_with fail
  go_loopw [3] (fun x wr => ∃ t : Int, -1 ≤ t ∧ t ≤ 10 ∧ x = .int .i64 t ∧ ListsAt w.heap.size w wr) (fun x _ => (10 - intOf x).toNat)
  case atStart => exact ⟨-1, by omega, by omega, rfl, HST.out⟩
  case round =>
    obtain ⟨t, t0, t1, rfl, hE⟩ := hrel
    have HE := Lib.hid hE
    clear hE HST
    have htw : (Lit.int .i64 t).wf = true := WalkArith.wf_i64 (by omega)
    have HTW := Lib.hid htw
    clear htw
    by_cases ht2 : t < 10
    · go_wp2_with fail
      obtain ⟨wo, rfl⟩ : ∃ wo : World, wo = wr := ⟨_, rfl⟩
      go_loopw [4] (fun x wr => ∃ i : Nat, i ≤ 9 ∧ x = .int .i64 i ∧ ListsAt w.heap.size w wr) (fun x _ => 9 - (intOf x).toNat)
      case atStart => exact ⟨0, by omega, rfl, HE.out⟩
      case round =>
        obtain ⟨i, hi, rfl, hE2⟩ := hrel
        have i0 : (0 : Int) ≤ (i : Int) := Int.natCast_nonneg _
        by_cases hi2 : i < 9
        · have i1 : (i : Int) < 9 := by omega
          obtain ⟨e1, e2, _⟩ := lists_all hE2 i hi2
          have HE2 := Lib.hid hE2
          clear hE2
          obtain ⟨x, hx⟩ : ∃ x, mkW t (nv i) = x := ⟨_, rfl⟩
          have hxr := mkW_range t (nv i)
          rw [hx] at hxr
          obtain ⟨x0, x1⟩ := hxr
          have HX := Lib.hid hx
          have HXW := Lib.hid (WalkArith.wf_u64 (n := x) (by omega))
          clear hx
          go_wp2_with fail
          refine (make_any t (nv i) _).mono ?_
          rintro e w' ⟨rfl, rfl⟩
          rw [HX.out]
          have HLD := Lib.hid HE2.out.drew
          obtain ⟨m1, m2, m3, m4, m5⟩ := mod8 i
          go_wp2_with fail
          go_region_held3 (fun W' => W'.cell? ⟨w.heap.size, i, none⟩ = some (.int .i64 (nv i)) ∧ W'.cell? ⟨w.heap.size + 1, i % 8, none⟩ = some (.int .i64 (zv (i % 8))) ∧ ListsAt w.heap.size w W') (first | exact ⟨e1, e2, HLD.out⟩ | assumption)
            (first | (go_at_call 10; refine (tags_lists i hi2 _ _ _ HTW.out (nv_wf i) (by first | exact HXW.out | exact wf_wrap .u64 _) w _ (by assumption)).mono ?_; rintro e w' ⟨rfl, hs⟩) | (go_at_call 6; refine (heads_lists i hi2 _ _ _ HTW.out (by first | exact nv_wf i | exact zv_wf _) (by first | exact HXW.out | exact wf_wrap .u64 _) w _ (by assumption)).mono ?_; rintro e w' ⟨rfl, hs⟩))
          have hEE : ListsAt w.heap.size w _ := (‹_ ∧ _ ∧ ListsAt w.heap.size w _›).2.2
          have HEE := Lib.hid hEE
          clear hEE m1 m2 m3 m4 m5 e1 e2 HLD HE2
          go_wp2_with fail
          go_loopw [7] (fun y wr => ∃ b : Nat, b ≤ 64 ∧ y = .int .i64 b ∧ ListsAt w.heap.size w wr) (fun y _ => 64 - (intOf y).toNat)
          case atStart => exact ⟨0, by omega, rfl, HEE.out⟩
          case round =>
            obtain ⟨b, hb, rfl, hE3⟩ := hrel
            have HE3 := Lib.hid hE3
            clear hE3
            have b0 : (0 : Int) ≤ (b : Int) := Int.natCast_nonneg _
            by_cases hb2 : b < 64
            · have b1 : (b : Int) < 64 := by omega
              go_wp2_with fail
              refine (tags_any 0 0 _ (by decide) (by decide) (wf_bits _ .u64 _ _) _).mono ?_
              rintro e w3 ⟨rfl, h3⟩
              have HE4 := Lib.hid (HE3.out.keep h3)
              clear h3
              go_wp2_with fail
              exact ⟨⟨b + 1, by omega, by go_num, HE4.out⟩, by show 64 - ((b : Int) + 1).toNat < 64 - (b : Int).toNat; omega⟩
            · go_wp2_with fail
              exact ⟨⟨i + 1, by omega, by go_num, HE3.out⟩, by show 9 - ((i : Int) + 1).toNat < 9 - (i : Int).toNat; omega⟩
        · have HE2 := Lib.hid hE2
          clear hE2
          go_wp2_with fail
          obtain ⟨wq, rfl⟩ : ∃ wq : World, wq = wr := ⟨_, rfl⟩
          go_loopw [8] (fun y wr => ∃ k : Nat, k ≤ 8 ∧ y = .int .i64 k ∧ ListsAt w.heap.size w wr) (fun y _ => 8 - (intOf y).toNat)
          case atStart => exact ⟨0, by omega, rfl, HE2.out⟩
          case round =>
            obtain ⟨k, hk, rfl, hE5⟩ := hrel
            have k0 : (0 : Int) ≤ (k : Int) := Int.natCast_nonneg _
            by_cases hk2 : k < 8
            · have k1 : (k : Int) < 8 := by omega
              have e1 := hE5.z k hk2
              have HE5 := Lib.hid hE5
              clear hE5
              obtain ⟨x, hx⟩ : ∃ x, headW t (zv k) = x := ⟨_, rfl⟩
              have hxr := headW_range t (zv k)
              rw [hx] at hxr
              obtain ⟨x0, x1⟩ := hxr
              have HX := Lib.hid hx
              have HXW := Lib.hid (WalkArith.wf_u64 (n := x) (by omega))
              clear hx
              go_wp2_with fail
              refine (head_any t (zv k) _).mono ?_
              rintro e w' ⟨rfl, rfl⟩
              rw [HX.out]
              go_wp2_with fail
              refine (heads_any t (zv k) x HTW.out (zv_wf k) HXW.out _).mono ?_
              rintro e w6 ⟨rfl, h6⟩
              have HE6 := Lib.hid (HE5.out.keep h6)
              clear h6 e1
              go_wp2_with fail
              go_loopw [11] (fun y wr => ∃ b : Nat, b ≤ 64 ∧ y = .int .i64 b ∧ ListsAt w.heap.size w wr) (fun y _ => 64 - (intOf y).toNat)
              case atStart => exact ⟨0, by omega, rfl, HE6.out⟩
              case round =>
                obtain ⟨b, hb, rfl, hE7⟩ := hrel
                have HE7 := Lib.hid hE7
                clear hE7
                have b0 : (0 : Int) ≤ (b : Int) := Int.natCast_nonneg _
                by_cases hb2 : b < 64
                · have b1 : (b : Int) < 64 := by omega
                  go_wp2_with fail
                  refine (heads_any 0 0 _ (by decide) (by decide) (wf_bits _ .u64 _ _) _).mono ?_
                  rintro e w8 ⟨rfl, h8⟩
                  have HE8 := Lib.hid (HE7.out.keep h8)
                  clear h8
                  go_wp2_with fail
                  refine (tags_any 0 0 _ (by decide) (by decide) (wf_bits _ .u64 _ _) _).mono ?_
                  rintro e w9 ⟨rfl, h9⟩
                  have HE9 := Lib.hid (HE8.out.keep h9)
                  clear h9
                  go_wp2_with fail
                  exact ⟨⟨b + 1, by omega, by go_num, HE9.out⟩, by show 64 - ((b : Int) + 1).toNat < 64 - (b : Int).toNat; omega⟩
                · go_wp2_with fail
                  exact ⟨⟨k + 1, by omega, by go_num, HE7.out⟩, by show 8 - ((k : Int) + 1).toNat < 8 - (k : Int).toNat; omega⟩
            · have HE5 := Lib.hid hE5
              clear hE5
              go_wp2_with fail
              exact ⟨⟨t + 1, by omega, by omega, rfl, HE5.out⟩, by show (10 - (t + 1)).toNat < (10 - t).toNat; omega⟩
    · have hB := HE.out.below
      have HB := Lib.hid hB
      have hmk := make41
      have hcv := conv41
      have hls := long41_size
      clear HE hB
      go_wp2_with fail
      generalize hW : wr.alloc (.cells zeros41 5) = W1
      have hB1 : Below w.heap.size w W1 := hW ▸ HB.out.alloc HB.out.size _
      have HB1 := Lib.hid hB1
      clear hB1 hW hmk hcv
      have hl0 : long41.size ≤ maxLen := (by unfold maxLen; rw [long41_size]; omega)
      have hl1 : (long41.extract 1 41).size ≤ maxLen := (by unfold maxLen; rw [long1_size]; omega)
      have hl2 : (⟨#[]⟩ : ByteArray).size ≤ maxLen := by decide
      have hl3 : (⟨#[97]⟩ : ByteArray).size ≤ maxLen := by decide
      have hl4 : (⟨#[98]⟩ : ByteArray).size ≤ maxLen := by decide
      have hl5 : (⟨#[97, 0]⟩ : ByteArray).size ≤ maxLen := by decide
      have C9 := Lib.hid (atoms9 long41 ⟨#[]⟩ (long41.extract 1 41) ⟨#[97]⟩ long41 ⟨#[]⟩ ⟨#[98]⟩ (long41.extract 1 41) ⟨#[97, 0]⟩ hl0 hl2 hl1 hl3 hl0 hl2 hl4 hl1 hl5 w W1 HB1.out)
      clear hl0 hl1 hl2 hl3 hl4 hl5
      go_region_held3 (fun W' => Below w.heap.size w W') (first | exact HB1.out.drew | assumption | exact (HB1.out.alloc HB1.out.size _).drew)
        (first | (go_at_call 7; refine C9.out.mono ?_; rintro e w' ⟨rfl, hs⟩) | (go_at_call 25; refine (awakeB w _ (by assumption)).mono ?_; rintro e w' ⟨rfl, hs⟩))
      go_wp2
      go_ret
      exact ⟨rfl, ‹Below w.heap.size w _›⟩
end Go.Proofs.Ytfchkgihiclkkaa
