/-
  The walks of WordTags and WordHeads: true at every input.
-/
import Derived.Test.YtfchkgihiclkkaaAwake
namespace Go.Proofs.Ytfchkgihiclkkaa
open Go.RowKit

theorem u64_bd {x : Int} (h : (Lit.int .u64 x).wf = true) : 0 ≤ x ∧ x < 18446744073709551616 := by
  simp [Lit.wf, IntKind.min, IntKind.max, IntKind.signed, IntKind.bits] at h
  omega
set_option maxHeartbeats 400000 in
theorem tags_any (t n x : Int) (_w0 : (Lit.int .i64 t).wf = true) (_w1 : (Lit.int .i64 n).wf = true) (w2 : (Lit.int .u64 x).wf = true) (w : World) :
    Calls Try.prog 10 #[.int .i64 t, .int .i64 n, .int .u64 x] w fun e w' => e = .returned (.bool true) ∧ Below w.heap.size w w' := by
  obtain ⟨h0, h1⟩ := u64_bd w2
  go_enter Try.func10, Try.ntmps10
  go_wp2_with fail
  refine (make_any t n _).mono ?_
  rintro e w' ⟨rfl, rfl⟩
  go_wp2_with fail
  refine (refMake_any t n _).mono ?_
  rintro e w' ⟨rfl, rfl⟩
  go_wp2_with fail
  refine (tag_any x h0 h1 _).mono ?_
  rintro e w' ⟨rfl, rfl⟩
  go_wp2_with fail
  refine (refTag_any x h0 h1 _).mono ?_
  rintro e w' ⟨rfl, rfl⟩
  go_wp2_with fail
  refine (number_any x h0 h1 _).mono ?_
  rintro e w' ⟨rfl, rfl⟩
  go_wp2_with fail
  refine (refNumber_any x h0 h1 _).mono ?_
  rintro e w' ⟨rfl, rfl⟩
  go_wp2_with fail
  refine (awake_any _).mono ?_
  rintro e w' ⟨rfl, hb⟩
  go_wp2_with fail
  go_ret
  exact ⟨rfl, hb⟩
set_option maxHeartbeats 400000 in
theorem heads_any (k n x : Int) (_w0 : (Lit.int .i64 k).wf = true) (_w1 : (Lit.int .i64 n).wf = true) (w2 : (Lit.int .u64 x).wf = true) (w : World) :
    Calls Try.prog 6 #[.int .i64 k, .int .i64 n, .int .u64 x] w fun e w' => e = .returned (.bool true) ∧ Below w.heap.size w w' := by
  obtain ⟨h0, h1⟩ := u64_bd w2
  go_enter Try.func6, Try.ntmps6
  go_wp2_with fail
  refine (head_any k n _).mono ?_
  rintro e w' ⟨rfl, rfl⟩
  go_wp2_with fail
  refine (refHead_any k n _).mono ?_
  rintro e w' ⟨rfl, rfl⟩
  go_wp2_with fail
  refine (split_any x h0 h1 _).mono ?_
  rintro e w' ⟨rfl, rfl⟩
  go_wp2_with fail
  refine (refSplit_any x h0 h1 _).mono ?_
  rintro e w' ⟨rfl, rfl⟩
  go_wp2_with fail
  refine (awake_any _).mono ?_
  rintro e w' ⟨rfl, hb⟩
  go_wp2_with fail
  go_ret
  exact ⟨rfl, hb⟩
end Go.Proofs.Ytfchkgihiclkkaa
