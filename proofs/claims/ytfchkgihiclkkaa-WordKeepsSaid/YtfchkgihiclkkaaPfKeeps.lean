/-
  WordKeeps is proved: numbers of texts are given in order, one each; a text keeps its own, whatever is asked for later, to 200 texts of at most 40 bytes. No condition.
-/
import Derived.Test.YtfchkgihiclkkaaRows
import Derived.WalkKit
import Derived.ProofKit
import Derived.OpenShut
import Derived.Test.YtfchkgihiclkkaaLawKeeps
namespace Go.Proofs.Ytfchkgihiclkkaa.wordKeeps
open Go.ChangeShapes Go.WideShapes Go.ChangeAt Go.RowKit

theorem own : ownKnob Try.prog.godebug = none := by kernel_rfl
theorem laidOut : laidOutB Try.prog = true := by kernel_rfl
theorem cells9 : Try.prog.cellsOf 9 = 1 := by kernel_rfl

set_option maxRecDepth 100000 in
theorem lifted (os : Os) (started : os.Started) (H : Type) (enc : TypeId × Value → H) :
    ReturnsInHanded {} Try.checked os 9 .any (Rows.wordKeepsSpec.pre6 enc Try.prog Try.f9 Rows.wordKeepsRow.domain false) (Rows.wordKeepsSpec.post enc Try.prog Try.f9 false true false false) := by
  refine returnsInHanded_of_change (C := Try.checked) own started (by kernel_rfl) Try.func9
    (ChangeSpec.witness6 (enc := enc) (C := Try.checked) false ⟨#[], #[.slice none 0 0, .int .i64 0], []⟩ 8 (by kernel_rfl) (by kernel_rfl) (by kernel_rfl) (by kernel_rfl)) ?_
  intro W base args ds gs before hval0 hW hcnd _
  have hval : ∀ (j : Nat) t v, Try.f9.params[j]? = some t → args[j]? = some v → Value.okWide Try.prog W .any base t v := hval0
  have hW' := hW
  obtain ⟨p, q, hA0, hV, rfl, hfz, hnd⟩ := hW
  have hA : DataW.TrodAll enc Try.prog W 0 (fun _ => true) true Try.f9.params.toList args.toList ds p := hA0
  rw [Try.params9] at hA hval
  obtain ⟨v0, vs0, d0, ds0, p0, q0, hargs, rfl, rfl, h0, r0⟩ := trodAll_cons hA
  obtain ⟨v1, vs1, d1, ds1, p1, q1, rfl, rfl, rfl, h1, r1⟩ := trodAll_cons r0
  obtain ⟨rfl, rfl, rfl⟩ := trodAll_nil r1
  obtain rfl : args = #[v0, v1] := by cases args; simp_all
  obtain ⟨rfl, rfl⟩ := trodVars_none hV
  obtain ⟨a0, len, cap, rfl⟩ := okWide_slice Try.underlying42 (hval 0 42 v0 rfl rfl)
  obtain ⟨a1, rfl, rfl, rfl, w1⟩ := open_int Try.underlying3 (hval 1 3 v1 rfl rfl) h1
  have h0k := h0
  obtain ⟨fuel, hf⟩ := h0
  clear hA0 hval0
  simp only [List.append_nil] at hW'
  have hlt : ∀ x ∈ p0, x.block < W.heap.size := fun x hx => by simpa using hW'.lt x hx
  have fin : ∀ (W' : World), Below W.heap.size W W' → Rows.wordKeepsSpec.post enc Try.checked.prog Try.f9 false true false false W #[.slice a0 len cap, .int .i64 a1] (.bool true) W' := fun W' hnx =>
    ⟨_, _, _, [] ++ [], p0 ++ ([] ++ []), [], hW', trodAll_cons_mk (shut_bool Try.underlying4 _) trodAll_mk0,
      trodAll_cons_mk (Below.trod laidOut (by kernel_rfl) (of_decide_eq_true (by kernel_rfl)) h0k hnx hlt) (trodAll_cons_mk (shut_int Try.underlying3 w1) trodAll_mk0), rfl, hnx.frame _, fun h => by cases h⟩
  have zero_end : len = 0 → Calls Try.checked.prog 9 #[.slice a0 len cap, .int .i64 a1] W fun e W' => ∃ v, e = Ending.returned v ∧ Rows.wordKeepsSpec.post enc Try.checked.prog Try.f9 false true false false W #[.slice a0 len cap, .int .i64 a1] v W' := by
    intro hl0
    subst hl0
    exact (keeps_zero a0 cap a1 W).mono fun e W' ⟨he, hg⟩ => ⟨_, he, fin W' hg⟩
  rcases open_strings Try.underlying42 Try.underlying9 cells9 hf with ⟨hcs, hx⟩ | ⟨a, len', cap', ss, hcs, _, hl, hm, hz, hx, hcell, hws⟩
  · simp [Value.cells] at hcs
    obtain ⟨rfl, rfl, rfl⟩ := hcs
    exact zero_end rfl
  · simp [Value.cells] at hcs
    obtain ⟨rfl, rfl, rfl⟩ := hcs
    simp only [Prod.mk.injEq] at hx
    obtain ⟨hd, hp⟩ := hx
    simp only [if_true] at hz
    by_cases hl0 : len = 0
    · exact zero_end hl0
    · obtain ⟨b, off, spot⟩ := a
      have hspot : spot = none := by simpa [Addr.add] using World.cell?_spot (hcell 0 (by omega))
      subst hspot
      have hbW : b < W.heap.size := hlt (.cell b off) (by rw [hp]; exact MemPlace.mem_row.2 ⟨0, by omega, by simp⟩)
      have hc : ∀ i, i < len → W.cell? ⟨b, off + i, none⟩ = some (.string (ss.getD i ByteArray.empty)) := fun i hi => by rw [← add_plain]; exact hcell i (by omega)
      have ht : ∀ i, i < len → (ss.getD i ByteArray.empty).size ≤ maxLen := fun i hi => hws _ (by
        have h : i < ss.length := by omega
        simp [h])
      by_cases hl2 : 200 < len
      · exact (keeps_big b off len cap (fun i => ss.getD i ByteArray.empty) a1 W hl2 hl hbW (fun i hi => hc i (by omega)) (fun i hi => ht i (by omega))).mono fun e W' ⟨he, hg⟩ => ⟨_, he, fin W' hg⟩
      · exact (keeps_small b off len cap (fun i => ss.getD i ByteArray.empty) a1 W (by omega) hbW hc ht).mono fun e W' ⟨he, hg⟩ => ⟨_, he, fin W' hg⟩

theorem over : Rows.wordKeepsRow.holds Try.pinned (OpenSpec.ofChange Rows.wordKeepsSpec) :=
  OpenClaim.holds_of_wide 9 Try.f9 rfl rfl rfl rfl rfl rfl rfl ⟨rfl, rfl, rfl, rfl, rfl⟩ rfl rfl rfl rfl rfl (by kernel_rfl) Try.func9 (by kernel_rfl)
    (of_decide_eq_true (by kernel_rfl)) (by unfold Func.isWrapper; first | (rw [if_pos (by decide +kernel)]; kernel_rfl) | (rw [if_neg (by decide +kernel)]; exact ⟨rfl, rfl⟩))
    (fun os started H enc _ => lifted os started H enc)
end Go.Proofs.Ytfchkgihiclkkaa.wordKeeps
namespace Go.Proofs.Ytfchkgihiclkkaa
/-- The statement. -/
theorem wordKeeps_holds : Rows.WordKeepsSaid := wordKeeps.over
#print axioms wordKeeps_holds
end Go.Proofs.Ytfchkgihiclkkaa
