/-
  No cell of these rows narrows 'for every input' (looked for: loops, veiled, ifaces, maps, wideKeys, modest, calm, conditions, laid).
  DERIVED. THE GIVEN ROWS OF THIS SEAT. 10 by the template 'for every input the law returns true; each argument reads behind the call as it read before'; 0 by the template 'total and deterministic' (their statements: YtfchkgihiclkkaaTotals.lean).
  GIVEN WITH THE SEED: the statements are not yours to turn. If you find one false, say at which input.
  Laid BY PROGRAM, IN A SANDBOX (cutbox-rows.mjs): the forced cells as the released guide's own fill.sh prints them over the translation 175f68bdcd264d85… (all of the seat's roots in one cut). By AI agents, Wed Nov 11 2026. No macro, syntax, notation, axiom, sorry.
-/
import Derived.Test.YtfchkgihiclkkaaChecked
import GoSem.Claim
import GoSem.ClaimJoined
import GoSem.ClaimMapViews
import Derived.JoinedTies
import Derived.KernelRfl
namespace Go.Proofs.Ytfchkgihiclkkaa
/- THE CELL 'sum', in the pinned program and in every row, IS THE sha256 OF THE DUMP (.gsa) THAT YtfchkgihiclkkaaProg.lean LOADS. Nothing in Lean hashes anything: it is a label: what it is worth is what the hold of that sum in a sandbox is worth. -/
noncomputable def Try.pinned : Pinned := { name := "ytfchkgihiclkkaa", sum := "175f68bdcd264d85df8d78be8c004c38f57a6c8cfb6ff9451084354eac607b31", checked := Try.checked }
namespace Rows
def none {H : Type} : Left H := { results := [], args := [] }

/-- 'pigeonholelaw26.RoomTells': WHATEVER THE INPUT: true; the input reads as it did. -/
def roomTellsSpec : ChangeSpec := { name := "roomTells", fn := fun _ => fun
  | [d1, d2, d3, d4, d5] => { results := [.lit (.bool true)], args := [d1, d2, d3, d4, d5] }
  | _ => none }
def roomTellsRow : OpenClaim := { program := "ytfchkgihiclkkaa", sum := "175f68bdcd264d85df8d78be8c004c38f57a6c8cfb6ff9451084354eac607b31", func := "pigeonhole/pigeonholelaw26.RoomTells", spec := "roomTells", unfollowed := true, recurses := true, apart := false }
def RoomTellsSaid : Prop := roomTellsRow.holds Try.pinned (OpenSpec.ofChange roomTellsSpec)

/-- ITS FALSE NEIGHBOUR: 'it returns false'. Refute it at one input. -/
def roomTellsWrong : ChangeSpec := { name := "roomTells", fn := fun _ => fun
  | [d1, d2, d3, d4, d5] => { results := [.lit (.bool false)], args := [d1, d2, d3, d4, d5] }
  | _ => none }
def RoomTellsWrongFalsely : Prop := roomTellsRow.holds Try.pinned (OpenSpec.ofChange roomTellsWrong)

/-- 'pigeonholelaw26.RoomNumbers': WHATEVER THE INPUT: true; the input reads as it did. -/
def roomNumbersSpec : ChangeSpec := { name := "roomNumbers", fn := fun _ => fun
  | [] => { results := [.lit (.bool true)], args := [] }
  | _ => none }
def roomNumbersRow : OpenClaim := { program := "ytfchkgihiclkkaa", sum := "175f68bdcd264d85df8d78be8c004c38f57a6c8cfb6ff9451084354eac607b31", func := "pigeonhole/pigeonholelaw26.RoomNumbers", spec := "roomNumbers", unfollowed := true, recurses := true, apart := false }
def RoomNumbersSaid : Prop := roomNumbersRow.holds Try.pinned (OpenSpec.ofChange roomNumbersSpec)

/-- ITS FALSE NEIGHBOUR: 'it returns false'. Refute it at one input. -/
def roomNumbersWrong : ChangeSpec := { name := "roomNumbers", fn := fun _ => fun
  | [] => { results := [.lit (.bool false)], args := [] }
  | _ => none }
def RoomNumbersWrongFalsely : Prop := roomNumbersRow.holds Try.pinned (OpenSpec.ofChange roomNumbersWrong)

/-- 'pigeonholelaw26.RoomFits': WHATEVER THE INPUT: true; the input reads as it did. -/
def roomFitsSpec : ChangeSpec := { name := "roomFits", fn := fun _ => fun
  | [d1, d2, d3, d4, d5] => { results := [.lit (.bool true)], args := [d1, d2, d3, d4, d5] }
  | _ => none }
def roomFitsRow : OpenClaim := { program := "ytfchkgihiclkkaa", sum := "175f68bdcd264d85df8d78be8c004c38f57a6c8cfb6ff9451084354eac607b31", func := "pigeonhole/pigeonholelaw26.RoomFits", spec := "roomFits", unfollowed := true, recurses := true, apart := false }
def RoomFitsSaid : Prop := roomFitsRow.holds Try.pinned (OpenSpec.ofChange roomFitsSpec)

/-- ITS FALSE NEIGHBOUR: 'it returns false'. Refute it at one input. -/
def roomFitsWrong : ChangeSpec := { name := "roomFits", fn := fun _ => fun
  | [d1, d2, d3, d4, d5] => { results := [.lit (.bool false)], args := [d1, d2, d3, d4, d5] }
  | _ => none }
def RoomFitsWrongFalsely : Prop := roomFitsRow.holds Try.pinned (OpenSpec.ofChange roomFitsWrong)

/-- 'pigeonholelaw23.WordHeads': WHATEVER THE INPUT: true; the input reads as it did. -/
def wordHeadsSpec : ChangeSpec := { name := "wordHeads", fn := fun _ => fun
  | [d1, d2, d3] => { results := [.lit (.bool true)], args := [d1, d2, d3] }
  | _ => none }
def wordHeadsRow : OpenClaim := { program := "ytfchkgihiclkkaa", sum := "175f68bdcd264d85df8d78be8c004c38f57a6c8cfb6ff9451084354eac607b31", func := "pigeonhole/pigeonholelaw23.WordHeads", spec := "wordHeads", apart := false }
def WordHeadsSaid : Prop := wordHeadsRow.holds Try.pinned (OpenSpec.ofChange wordHeadsSpec)

/-- ITS FALSE NEIGHBOUR: 'it returns false'. Refute it at one input. -/
def wordHeadsWrong : ChangeSpec := { name := "wordHeads", fn := fun _ => fun
  | [d1, d2, d3] => { results := [.lit (.bool false)], args := [d1, d2, d3] }
  | _ => none }
def WordHeadsWrongFalsely : Prop := wordHeadsRow.holds Try.pinned (OpenSpec.ofChange wordHeadsWrong)

/-- 'pigeonholelaw23.WordAtoms': WHATEVER THE INPUT: true; the input reads as it did. -/
def wordAtomsSpec : ChangeSpec := { name := "wordAtoms", fn := fun _ => fun
  | [d1, d2] => { results := [.lit (.bool true)], args := [d1, d2] }
  | _ => none }
def wordAtomsRow : OpenClaim := { program := "ytfchkgihiclkkaa", sum := "175f68bdcd264d85df8d78be8c004c38f57a6c8cfb6ff9451084354eac607b31", func := "pigeonhole/pigeonholelaw23.WordAtoms", spec := "wordAtoms", apart := false }
def WordAtomsSaid : Prop := wordAtomsRow.holds Try.pinned (OpenSpec.ofChange wordAtomsSpec)

/-- ITS FALSE NEIGHBOUR: 'it returns false'. Refute it at one input. -/
def wordAtomsWrong : ChangeSpec := { name := "wordAtoms", fn := fun _ => fun
  | [d1, d2] => { results := [.lit (.bool false)], args := [d1, d2] }
  | _ => none }
def WordAtomsWrongFalsely : Prop := wordAtomsRow.holds Try.pinned (OpenSpec.ofChange wordAtomsWrong)

/-- 'pigeonholelaw23.WordNil': WHATEVER THE INPUT: true; the input reads as it did. -/
def wordNilSpec : ChangeSpec := { name := "wordNil", fn := fun _ => fun
  | [d1, d2] => { results := [.lit (.bool true)], args := [d1, d2] }
  | _ => none }
def wordNilRow : OpenClaim := { program := "ytfchkgihiclkkaa", sum := "175f68bdcd264d85df8d78be8c004c38f57a6c8cfb6ff9451084354eac607b31", func := "pigeonhole/pigeonholelaw23.WordNil", spec := "wordNil", apart := false }
def WordNilSaid : Prop := wordNilRow.holds Try.pinned (OpenSpec.ofChange wordNilSpec)

/-- ITS FALSE NEIGHBOUR: 'it returns false'. Refute it at one input. -/
def wordNilWrong : ChangeSpec := { name := "wordNil", fn := fun _ => fun
  | [d1, d2] => { results := [.lit (.bool false)], args := [d1, d2] }
  | _ => none }
def WordNilWrongFalsely : Prop := wordNilRow.holds Try.pinned (OpenSpec.ofChange wordNilWrong)

/-- 'pigeonholelaw23.WordKeeps': WHATEVER THE INPUT: true; the input reads as it did. -/
def wordKeepsSpec : ChangeSpec := { name := "wordKeeps", fn := fun _ => fun
  | [d1, d2] => { results := [.lit (.bool true)], args := [d1, d2] }
  | _ => none }
def wordKeepsRow : OpenClaim := { program := "ytfchkgihiclkkaa", sum := "175f68bdcd264d85df8d78be8c004c38f57a6c8cfb6ff9451084354eac607b31", func := "pigeonhole/pigeonholelaw23.WordKeeps", spec := "wordKeeps", apart := false }
def WordKeepsSaid : Prop := wordKeepsRow.holds Try.pinned (OpenSpec.ofChange wordKeepsSpec)

/-- ITS FALSE NEIGHBOUR: 'it returns false'. Refute it at one input. -/
def wordKeepsWrong : ChangeSpec := { name := "wordKeeps", fn := fun _ => fun
  | [d1, d2] => { results := [.lit (.bool false)], args := [d1, d2] }
  | _ => none }
def WordKeepsWrongFalsely : Prop := wordKeepsRow.holds Try.pinned (OpenSpec.ofChange wordKeepsWrong)

/-- 'pigeonholelaw23.WordTags': WHATEVER THE INPUT: true; the input reads as it did. -/
def wordTagsSpec : ChangeSpec := { name := "wordTags", fn := fun _ => fun
  | [d1, d2, d3] => { results := [.lit (.bool true)], args := [d1, d2, d3] }
  | _ => none }
def wordTagsRow : OpenClaim := { program := "ytfchkgihiclkkaa", sum := "175f68bdcd264d85df8d78be8c004c38f57a6c8cfb6ff9451084354eac607b31", func := "pigeonhole/pigeonholelaw23.WordTags", spec := "wordTags", apart := false }
def WordTagsSaid : Prop := wordTagsRow.holds Try.pinned (OpenSpec.ofChange wordTagsSpec)

/-- ITS FALSE NEIGHBOUR: 'it returns false'. Refute it at one input. -/
def wordTagsWrong : ChangeSpec := { name := "wordTags", fn := fun _ => fun
  | [d1, d2, d3] => { results := [.lit (.bool false)], args := [d1, d2, d3] }
  | _ => none }
def WordTagsWrongFalsely : Prop := wordTagsRow.holds Try.pinned (OpenSpec.ofChange wordTagsWrong)

/-- 'pigeonholelaw23.WordBack': WHATEVER THE INPUT: true; the input reads as it did. -/
def wordBackSpec : ChangeSpec := { name := "wordBack", fn := fun _ => fun
  | [d1, d2, d3] => { results := [.lit (.bool true)], args := [d1, d2, d3] }
  | _ => none }
def wordBackRow : OpenClaim := { program := "ytfchkgihiclkkaa", sum := "175f68bdcd264d85df8d78be8c004c38f57a6c8cfb6ff9451084354eac607b31", func := "pigeonhole/pigeonholelaw23.WordBack", spec := "wordBack", apart := false }
def WordBackSaid : Prop := wordBackRow.holds Try.pinned (OpenSpec.ofChange wordBackSpec)

/-- ITS FALSE NEIGHBOUR: 'it returns false'. Refute it at one input. -/
def wordBackWrong : ChangeSpec := { name := "wordBack", fn := fun _ => fun
  | [d1, d2, d3] => { results := [.lit (.bool false)], args := [d1, d2, d3] }
  | _ => none }
def WordBackWrongFalsely : Prop := wordBackRow.holds Try.pinned (OpenSpec.ofChange wordBackWrong)

/-- 'pigeonholelaw23.WordNumbers': WHATEVER THE INPUT: true; the input reads as it did. -/
def wordNumbersSpec : ChangeSpec := { name := "wordNumbers", fn := fun _ => fun
  | [] => { results := [.lit (.bool true)], args := [] }
  | _ => none }
def wordNumbersRow : OpenClaim := { program := "ytfchkgihiclkkaa", sum := "175f68bdcd264d85df8d78be8c004c38f57a6c8cfb6ff9451084354eac607b31", func := "pigeonhole/pigeonholelaw23.WordNumbers", spec := "wordNumbers", apart := false }
def WordNumbersSaid : Prop := wordNumbersRow.holds Try.pinned (OpenSpec.ofChange wordNumbersSpec)

/-- ITS FALSE NEIGHBOUR: 'it returns false'. Refute it at one input. -/
def wordNumbersWrong : ChangeSpec := { name := "wordNumbers", fn := fun _ => fun
  | [] => { results := [.lit (.bool false)], args := [] }
  | _ => none }
def WordNumbersWrongFalsely : Prop := wordNumbersRow.holds Try.pinned (OpenSpec.ofChange wordNumbersWrong)

/- THE SECOND FORM. 'bulk': how many values and letters a reading holds, each counted each time it is reached (what is shared counts as often as it is met; a slice's spare places count too). A statement '..UptoSaid' is the law's where the arguments, and the package variables that the reading takes, are together of bulk at most 1048576: NARROWER than '..Said'. Prove '..Said' where nothing that the law and all that it calls make is longer than what came in: it says more and counts as full. Else prove '..UptoSaid'. A law counts once. -/
mutual
def uptoBulk {H : Type} : DataW H → Nat
  | .lit (.string bytes) => bytes.length + 1
  | .lit _ => 1
  | .nil => 1
  | .ptr d => uptoBulk d + 1
  | .slice elems spare => uptoBulkAll elems + uptoBulkAll spare + 1
  | .agg parts => uptoBulkAll parts + 1
  | .iface _ d => uptoBulk d + 1
  | .map entries => uptoBulkEntries entries + 1
  | .held _ => 1
def uptoBulkAll {H : Type} : List (DataW H) → Nat
  | [] => 0
  | d :: r => uptoBulk d + uptoBulkAll r
def uptoBulkEntries {H : Type} : List (Lit × DataW H) → Nat
  | [] => 0
  | x :: r => uptoBulkEntry x + uptoBulkEntries r
def uptoBulkEntry {H : Type} : Lit × DataW H → Nat
  | (.string bytes, d) => bytes.length + uptoBulk d + 1
  | (_, d) => uptoBulk d + 1
 end
def uptoSmall : (H : Type) → List (DataW H) → Bool := fun _ ds => decide (uptoBulkAll ds ≤ 1048576)
def OpenSpec.upto (s : _root_.Go.ChangeSpec) : _root_.Go.OpenSpec := { _root_.Go.OpenSpec.ofChange s with cond := some uptoSmall }

/-- 'pigeonholelaw26.RoomTells', WHERE WHAT IT READS IS OF BULK AT MOST 1048576: true; the input reads as it did. -/
def roomTellsUptoRow : OpenClaim := { program := "ytfchkgihiclkkaa", sum := "175f68bdcd264d85df8d78be8c004c38f57a6c8cfb6ff9451084354eac607b31", func := "pigeonhole/pigeonholelaw26.RoomTells", spec := "roomTells", unfollowed := true, recurses := true, apart := false, narrowed := true }
def RoomTellsUptoSaid : Prop := roomTellsUptoRow.holds Try.pinned (OpenSpec.upto roomTellsSpec)

/-- 'pigeonholelaw26.RoomNumbers', WHERE WHAT IT READS IS OF BULK AT MOST 1048576: true; the input reads as it did. -/
def roomNumbersUptoRow : OpenClaim := { program := "ytfchkgihiclkkaa", sum := "175f68bdcd264d85df8d78be8c004c38f57a6c8cfb6ff9451084354eac607b31", func := "pigeonhole/pigeonholelaw26.RoomNumbers", spec := "roomNumbers", unfollowed := true, recurses := true, apart := false, narrowed := true }
def RoomNumbersUptoSaid : Prop := roomNumbersUptoRow.holds Try.pinned (OpenSpec.upto roomNumbersSpec)

/-- 'pigeonholelaw26.RoomFits', WHERE WHAT IT READS IS OF BULK AT MOST 1048576: true; the input reads as it did. -/
def roomFitsUptoRow : OpenClaim := { program := "ytfchkgihiclkkaa", sum := "175f68bdcd264d85df8d78be8c004c38f57a6c8cfb6ff9451084354eac607b31", func := "pigeonhole/pigeonholelaw26.RoomFits", spec := "roomFits", unfollowed := true, recurses := true, apart := false, narrowed := true }
def RoomFitsUptoSaid : Prop := roomFitsUptoRow.holds Try.pinned (OpenSpec.upto roomFitsSpec)

/-- 'pigeonholelaw23.WordHeads', WHERE WHAT IT READS IS OF BULK AT MOST 1048576: true; the input reads as it did. -/
def wordHeadsUptoRow : OpenClaim := { program := "ytfchkgihiclkkaa", sum := "175f68bdcd264d85df8d78be8c004c38f57a6c8cfb6ff9451084354eac607b31", func := "pigeonhole/pigeonholelaw23.WordHeads", spec := "wordHeads", apart := false, narrowed := true }
def WordHeadsUptoSaid : Prop := wordHeadsUptoRow.holds Try.pinned (OpenSpec.upto wordHeadsSpec)

/-- 'pigeonholelaw23.WordAtoms', WHERE WHAT IT READS IS OF BULK AT MOST 1048576: true; the input reads as it did. -/
def wordAtomsUptoRow : OpenClaim := { program := "ytfchkgihiclkkaa", sum := "175f68bdcd264d85df8d78be8c004c38f57a6c8cfb6ff9451084354eac607b31", func := "pigeonhole/pigeonholelaw23.WordAtoms", spec := "wordAtoms", apart := false, narrowed := true }
def WordAtomsUptoSaid : Prop := wordAtomsUptoRow.holds Try.pinned (OpenSpec.upto wordAtomsSpec)

/-- 'pigeonholelaw23.WordNil', WHERE WHAT IT READS IS OF BULK AT MOST 1048576: true; the input reads as it did. -/
def wordNilUptoRow : OpenClaim := { program := "ytfchkgihiclkkaa", sum := "175f68bdcd264d85df8d78be8c004c38f57a6c8cfb6ff9451084354eac607b31", func := "pigeonhole/pigeonholelaw23.WordNil", spec := "wordNil", apart := false, narrowed := true }
def WordNilUptoSaid : Prop := wordNilUptoRow.holds Try.pinned (OpenSpec.upto wordNilSpec)

/-- 'pigeonholelaw23.WordKeeps', WHERE WHAT IT READS IS OF BULK AT MOST 1048576: true; the input reads as it did. -/
def wordKeepsUptoRow : OpenClaim := { program := "ytfchkgihiclkkaa", sum := "175f68bdcd264d85df8d78be8c004c38f57a6c8cfb6ff9451084354eac607b31", func := "pigeonhole/pigeonholelaw23.WordKeeps", spec := "wordKeeps", apart := false, narrowed := true }
def WordKeepsUptoSaid : Prop := wordKeepsUptoRow.holds Try.pinned (OpenSpec.upto wordKeepsSpec)

/-- 'pigeonholelaw23.WordTags', WHERE WHAT IT READS IS OF BULK AT MOST 1048576: true; the input reads as it did. -/
def wordTagsUptoRow : OpenClaim := { program := "ytfchkgihiclkkaa", sum := "175f68bdcd264d85df8d78be8c004c38f57a6c8cfb6ff9451084354eac607b31", func := "pigeonhole/pigeonholelaw23.WordTags", spec := "wordTags", apart := false, narrowed := true }
def WordTagsUptoSaid : Prop := wordTagsUptoRow.holds Try.pinned (OpenSpec.upto wordTagsSpec)

/-- 'pigeonholelaw23.WordBack', WHERE WHAT IT READS IS OF BULK AT MOST 1048576: true; the input reads as it did. -/
def wordBackUptoRow : OpenClaim := { program := "ytfchkgihiclkkaa", sum := "175f68bdcd264d85df8d78be8c004c38f57a6c8cfb6ff9451084354eac607b31", func := "pigeonhole/pigeonholelaw23.WordBack", spec := "wordBack", apart := false, narrowed := true }
def WordBackUptoSaid : Prop := wordBackUptoRow.holds Try.pinned (OpenSpec.upto wordBackSpec)

/-- 'pigeonholelaw23.WordNumbers', WHERE WHAT IT READS IS OF BULK AT MOST 1048576: true; the input reads as it did. -/
def wordNumbersUptoRow : OpenClaim := { program := "ytfchkgihiclkkaa", sum := "175f68bdcd264d85df8d78be8c004c38f57a6c8cfb6ff9451084354eac607b31", func := "pigeonhole/pigeonholelaw23.WordNumbers", spec := "wordNumbers", apart := false, narrowed := true }
def WordNumbersUptoSaid : Prop := wordNumbersUptoRow.holds Try.pinned (OpenSpec.upto wordNumbersSpec)

end Rows
end Go.Proofs.Ytfchkgihiclkkaa
