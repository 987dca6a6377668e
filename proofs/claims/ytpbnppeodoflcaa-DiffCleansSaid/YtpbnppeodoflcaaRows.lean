/-
  No cell of these rows narrows 'for every input' (looked for: loops, veiled, ifaces, maps, wideKeys, modest, calm, conditions, laid).
  DERIVED. THE GIVEN ROWS OF THIS SEAT. 12 by the template 'for every input the law returns true; each argument reads behind the call as it read before'; 0 by the template 'total and deterministic' (their statements: YtpbnppeodoflcaaTotals.lean).
  GIVEN WITH THE SEED: the statements are not yours to turn. If you find one false, say at which input.
  Laid BY PROGRAM, IN A SANDBOX (cutbox-rows.mjs): the forced cells as the released guide's own fill.sh prints them over the translation 80c1835bf9117ab2… (all of the seat's roots in one cut). By AI agents, Wed Nov 11 2026. No macro, syntax, notation, axiom, sorry.
-/
import Derived.Test.YtpbnppeodoflcaaChecked
import GoSem.Claim
import GoSem.ClaimJoined
import GoSem.ClaimMapViews
import Derived.JoinedTies
import Derived.KernelRfl
namespace Go.Proofs.Ytpbnppeodoflcaa
/- THE CELL 'sum', in the pinned program and in every row, IS THE sha256 OF THE DUMP (.gsa) THAT YtpbnppeodoflcaaProg.lean LOADS. Nothing in Lean hashes anything: it is a label: what it is worth is what the hold of that sum in a sandbox is worth. -/
noncomputable def Try.pinned : Pinned := { name := "ytpbnppeodoflcaa", sum := "80c1835bf9117ab2860ac41c58fd08aa42b13a7daaa2f9e677700af16809d487", checked := Try.checked }
namespace Rows
def none {H : Type} : Left H := { results := [], args := [] }

/-- 'catamaranlaw13.PageTells': WHATEVER THE INPUT: true; the input reads as it did. -/
def pageTellsSpec : ChangeSpec := { name := "pageTells", fn := fun _ => fun
  | [d1, d2, d3, d4] => { results := [.lit (.bool true)], args := [d1, d2, d3, d4] }
  | _ => none }
def pageTellsRow : OpenClaim := { program := "ytpbnppeodoflcaa", sum := "80c1835bf9117ab2860ac41c58fd08aa42b13a7daaa2f9e677700af16809d487", func := "catamaran/catamaranlaw13.PageTells", spec := "pageTells", apart := false }
def PageTellsSaid : Prop := pageTellsRow.holds Try.pinned (OpenSpec.ofChange pageTellsSpec)

/-- ITS FALSE NEIGHBOUR: 'it returns false'. Refute it at one input. -/
def pageTellsWrong : ChangeSpec := { name := "pageTells", fn := fun _ => fun
  | [d1, d2, d3, d4] => { results := [.lit (.bool false)], args := [d1, d2, d3, d4] }
  | _ => none }
def PageTellsWrongFalsely : Prop := pageTellsRow.holds Try.pinned (OpenSpec.ofChange pageTellsWrong)

/-- 'catamaranlaw03.BitsAsked': WHATEVER THE INPUT: true; the input reads as it did. -/
def bitsAskedSpec : ChangeSpec := { name := "bitsAsked", fn := fun _ => fun
  | [d1, d2, d3] => { results := [.lit (.bool true)], args := [d1, d2, d3] }
  | _ => none }
def bitsAskedRow : OpenClaim := { program := "ytpbnppeodoflcaa", sum := "80c1835bf9117ab2860ac41c58fd08aa42b13a7daaa2f9e677700af16809d487", func := "catamaran/catamaranlaw03.BitsAsked", spec := "bitsAsked", unfollowed := true, recurses := true, apart := false }
def BitsAskedSaid : Prop := bitsAskedRow.holds Try.pinned (OpenSpec.ofChange bitsAskedSpec)

/-- ITS FALSE NEIGHBOUR: 'it returns false'. Refute it at one input. -/
def bitsAskedWrong : ChangeSpec := { name := "bitsAsked", fn := fun _ => fun
  | [d1, d2, d3] => { results := [.lit (.bool false)], args := [d1, d2, d3] }
  | _ => none }
def BitsAskedWrongFalsely : Prop := bitsAskedRow.holds Try.pinned (OpenSpec.ofChange bitsAskedWrong)

/-- 'catamaranlaw28.ReqTells': WHATEVER THE INPUT: true; the input reads as it did. -/
def reqTellsSpec : ChangeSpec := { name := "reqTells", fn := fun _ => fun
  | [d1, d2, d3, d4, d5] => { results := [.lit (.bool true)], args := [d1, d2, d3, d4, d5] }
  | _ => none }
def reqTellsRow : OpenClaim := { program := "ytpbnppeodoflcaa", sum := "80c1835bf9117ab2860ac41c58fd08aa42b13a7daaa2f9e677700af16809d487", func := "catamaran/catamaranlaw28.ReqTells", spec := "reqTells", unfollowed := true, recurses := true, apart := false }
def ReqTellsSaid : Prop := reqTellsRow.holds Try.pinned (OpenSpec.ofChange reqTellsSpec)

/-- ITS FALSE NEIGHBOUR: 'it returns false'. Refute it at one input. -/
def reqTellsWrong : ChangeSpec := { name := "reqTells", fn := fun _ => fun
  | [d1, d2, d3, d4, d5] => { results := [.lit (.bool false)], args := [d1, d2, d3, d4, d5] }
  | _ => none }
def ReqTellsWrongFalsely : Prop := reqTellsRow.holds Try.pinned (OpenSpec.ofChange reqTellsWrong)

/-- 'catamaranlaw03.BitsBack': WHATEVER THE INPUT: true; the input reads as it did. -/
def bitsBackSpec : ChangeSpec := { name := "bitsBack", fn := fun _ => fun
  | [d1, d2, d3] => { results := [.lit (.bool true)], args := [d1, d2, d3] }
  | _ => none }
def bitsBackRow : OpenClaim := { program := "ytpbnppeodoflcaa", sum := "80c1835bf9117ab2860ac41c58fd08aa42b13a7daaa2f9e677700af16809d487", func := "catamaran/catamaranlaw03.BitsBack", spec := "bitsBack", unfollowed := true, recurses := true, apart := false }
def BitsBackSaid : Prop := bitsBackRow.holds Try.pinned (OpenSpec.ofChange bitsBackSpec)

/-- ITS FALSE NEIGHBOUR: 'it returns false'. Refute it at one input. -/
def bitsBackWrong : ChangeSpec := { name := "bitsBack", fn := fun _ => fun
  | [d1, d2, d3] => { results := [.lit (.bool false)], args := [d1, d2, d3] }
  | _ => none }
def BitsBackWrongFalsely : Prop := bitsBackRow.holds Try.pinned (OpenSpec.ofChange bitsBackWrong)

/-- 'catamaranlaw15.FrameTells': WHATEVER THE INPUT: true; the input reads as it did. -/
def frameTellsSpec : ChangeSpec := { name := "frameTells", fn := fun _ => fun
  | [d1, d2, d3] => { results := [.lit (.bool true)], args := [d1, d2, d3] }
  | _ => none }
def frameTellsRow : OpenClaim := { program := "ytpbnppeodoflcaa", sum := "80c1835bf9117ab2860ac41c58fd08aa42b13a7daaa2f9e677700af16809d487", func := "catamaran/catamaranlaw15.FrameTells", spec := "frameTells", unfollowed := true, recurses := true, apart := false }
def FrameTellsSaid : Prop := frameTellsRow.holds Try.pinned (OpenSpec.ofChange frameTellsSpec)

/-- ITS FALSE NEIGHBOUR: 'it returns false'. Refute it at one input. -/
def frameTellsWrong : ChangeSpec := { name := "frameTells", fn := fun _ => fun
  | [d1, d2, d3] => { results := [.lit (.bool false)], args := [d1, d2, d3] }
  | _ => none }
def FrameTellsWrongFalsely : Prop := frameTellsRow.holds Try.pinned (OpenSpec.ofChange frameTellsWrong)

/-- 'catamaranlaw17.SessTicks': WHATEVER THE INPUT: true; the input reads as it did. -/
def sessTicksSpec : ChangeSpec := { name := "sessTicks", fn := fun _ => fun
  | [d1, d2, d3] => { results := [.lit (.bool true)], args := [d1, d2, d3] }
  | _ => none }
def sessTicksRow : OpenClaim := { program := "ytpbnppeodoflcaa", sum := "80c1835bf9117ab2860ac41c58fd08aa42b13a7daaa2f9e677700af16809d487", func := "catamaran/catamaranlaw17.SessTicks", spec := "sessTicks", unfollowed := true, recurses := true, apart := false }
def SessTicksSaid : Prop := sessTicksRow.holds Try.pinned (OpenSpec.ofChange sessTicksSpec)

/-- ITS FALSE NEIGHBOUR: 'it returns false'. Refute it at one input. -/
def sessTicksWrong : ChangeSpec := { name := "sessTicks", fn := fun _ => fun
  | [d1, d2, d3] => { results := [.lit (.bool false)], args := [d1, d2, d3] }
  | _ => none }
def SessTicksWrongFalsely : Prop := sessTicksRow.holds Try.pinned (OpenSpec.ofChange sessTicksWrong)

/-- 'catamaranlaw03.BitsNames': WHATEVER THE INPUT: true; the input reads as it did. -/
def bitsNamesSpec : ChangeSpec := { name := "bitsNames", fn := fun _ => fun
  | [] => { results := [.lit (.bool true)], args := [] }
  | _ => none }
def bitsNamesRow : OpenClaim := { program := "ytpbnppeodoflcaa", sum := "80c1835bf9117ab2860ac41c58fd08aa42b13a7daaa2f9e677700af16809d487", func := "catamaran/catamaranlaw03.BitsNames", spec := "bitsNames", unfollowed := true, recurses := true, apart := false }
def BitsNamesSaid : Prop := bitsNamesRow.holds Try.pinned (OpenSpec.ofChange bitsNamesSpec)

/-- ITS FALSE NEIGHBOUR: 'it returns false'. Refute it at one input. -/
def bitsNamesWrong : ChangeSpec := { name := "bitsNames", fn := fun _ => fun
  | [] => { results := [.lit (.bool false)], args := [] }
  | _ => none }
def BitsNamesWrongFalsely : Prop := bitsNamesRow.holds Try.pinned (OpenSpec.ofChange bitsNamesWrong)

/-- 'catamaranlaw17.SessTakes': WHATEVER THE INPUT: true; the input reads as it did. -/
def sessTakesSpec : ChangeSpec := { name := "sessTakes", fn := fun _ => fun
  | [d1, d2, d3] => { results := [.lit (.bool true)], args := [d1, d2, d3] }
  | _ => none }
def sessTakesRow : OpenClaim := { program := "ytpbnppeodoflcaa", sum := "80c1835bf9117ab2860ac41c58fd08aa42b13a7daaa2f9e677700af16809d487", func := "catamaran/catamaranlaw17.SessTakes", spec := "sessTakes", unfollowed := true, recurses := true, apart := false }
def SessTakesSaid : Prop := sessTakesRow.holds Try.pinned (OpenSpec.ofChange sessTakesSpec)

/-- ITS FALSE NEIGHBOUR: 'it returns false'. Refute it at one input. -/
def sessTakesWrong : ChangeSpec := { name := "sessTakes", fn := fun _ => fun
  | [d1, d2, d3] => { results := [.lit (.bool false)], args := [d1, d2, d3] }
  | _ => none }
def SessTakesWrongFalsely : Prop := sessTakesRow.holds Try.pinned (OpenSpec.ofChange sessTakesWrong)

/-- 'catamaranlaw03.BitsBoth': WHATEVER THE INPUT: true; the input reads as it did. -/
def bitsBothSpec : ChangeSpec := { name := "bitsBoth", fn := fun _ => fun
  | [d1, d2, d3, d4] => { results := [.lit (.bool true)], args := [d1, d2, d3, d4] }
  | _ => none }
def bitsBothRow : OpenClaim := { program := "ytpbnppeodoflcaa", sum := "80c1835bf9117ab2860ac41c58fd08aa42b13a7daaa2f9e677700af16809d487", func := "catamaran/catamaranlaw03.BitsBoth", spec := "bitsBoth", unfollowed := true, recurses := true, apart := false }
def BitsBothSaid : Prop := bitsBothRow.holds Try.pinned (OpenSpec.ofChange bitsBothSpec)

/-- ITS FALSE NEIGHBOUR: 'it returns false'. Refute it at one input. -/
def bitsBothWrong : ChangeSpec := { name := "bitsBoth", fn := fun _ => fun
  | [d1, d2, d3, d4] => { results := [.lit (.bool false)], args := [d1, d2, d3, d4] }
  | _ => none }
def BitsBothWrongFalsely : Prop := bitsBothRow.holds Try.pinned (OpenSpec.ofChange bitsBothWrong)

/-- 'catamaranlaw14.DiffCleans': WHATEVER THE INPUT: true; the input reads as it did. -/
def diffCleansSpec : ChangeSpec := { name := "diffCleans", fn := fun _ => fun
  | [d1, d2, d3, d4] => { results := [.lit (.bool true)], args := [d1, d2, d3, d4] }
  | _ => none }
def diffCleansRow : OpenClaim := { program := "ytpbnppeodoflcaa", sum := "80c1835bf9117ab2860ac41c58fd08aa42b13a7daaa2f9e677700af16809d487", func := "catamaran/catamaranlaw14.DiffCleans", spec := "diffCleans", unfollowed := true, recurses := true, apart := false }
def DiffCleansSaid : Prop := diffCleansRow.holds Try.pinned (OpenSpec.ofChange diffCleansSpec)

/-- ITS FALSE NEIGHBOUR: 'it returns false'. Refute it at one input. -/
def diffCleansWrong : ChangeSpec := { name := "diffCleans", fn := fun _ => fun
  | [d1, d2, d3, d4] => { results := [.lit (.bool false)], args := [d1, d2, d3, d4] }
  | _ => none }
def DiffCleansWrongFalsely : Prop := diffCleansRow.holds Try.pinned (OpenSpec.ofChange diffCleansWrong)

/-- 'catamaranlaw14.DiffMarks': WHATEVER THE INPUT: true; the input reads as it did. -/
def diffMarksSpec : ChangeSpec := { name := "diffMarks", fn := fun _ => fun
  | [d1, d2, d3, d4, d5] => { results := [.lit (.bool true)], args := [d1, d2, d3, d4, d5] }
  | _ => none }
def diffMarksRow : OpenClaim := { program := "ytpbnppeodoflcaa", sum := "80c1835bf9117ab2860ac41c58fd08aa42b13a7daaa2f9e677700af16809d487", func := "catamaran/catamaranlaw14.DiffMarks", spec := "diffMarks", unfollowed := true, recurses := true, apart := false }
def DiffMarksSaid : Prop := diffMarksRow.holds Try.pinned (OpenSpec.ofChange diffMarksSpec)

/-- ITS FALSE NEIGHBOUR: 'it returns false'. Refute it at one input. -/
def diffMarksWrong : ChangeSpec := { name := "diffMarks", fn := fun _ => fun
  | [d1, d2, d3, d4, d5] => { results := [.lit (.bool false)], args := [d1, d2, d3, d4, d5] }
  | _ => none }
def DiffMarksWrongFalsely : Prop := diffMarksRow.holds Try.pinned (OpenSpec.ofChange diffMarksWrong)

/-- 'catamaranlaw14.DiffNames': WHATEVER THE INPUT: true; the input reads as it did. -/
def diffNamesSpec : ChangeSpec := { name := "diffNames", fn := fun _ => fun
  | [] => { results := [.lit (.bool true)], args := [] }
  | _ => none }
def diffNamesRow : OpenClaim := { program := "ytpbnppeodoflcaa", sum := "80c1835bf9117ab2860ac41c58fd08aa42b13a7daaa2f9e677700af16809d487", func := "catamaran/catamaranlaw14.DiffNames", spec := "diffNames", unfollowed := true, recurses := true, apart := false }
def DiffNamesSaid : Prop := diffNamesRow.holds Try.pinned (OpenSpec.ofChange diffNamesSpec)

/-- ITS FALSE NEIGHBOUR: 'it returns false'. Refute it at one input. -/
def diffNamesWrong : ChangeSpec := { name := "diffNames", fn := fun _ => fun
  | [] => { results := [.lit (.bool false)], args := [] }
  | _ => none }
def DiffNamesWrongFalsely : Prop := diffNamesRow.holds Try.pinned (OpenSpec.ofChange diffNamesWrong)

/- THE SECOND FORM. 'bulk': how many values and letters a reading holds, each counted each time it is reached (what is shared counts as often as it is met; a slice's spare places count too). A statement '..UptoSaid' is the law's where the arguments, and the package variables that the reading takes, are together of bulk at most 1048576: NARROWER than '..Said'. Prove '..Said' where nothing that the law and all that it calls make is longer than what came in: it says more and counts as full. Else prove '..UptoSaid'. A law counts once. -/
mutual
def uptoBulk {H : Type} : DataW H → Nat
  | .lit (.string bytes) => bytes.length + 1
  | .lit _ => 1
  | .nil => 1
  | .ptr d => uptoBulk d + 1
  | .slice elems spare => uptoBulkAll elems + uptoBulkAll spare + 1
  | .agg parts => uptoBulkAll parts + 1
  | .iface _ d => uptoBulk d + 1
  | .map entries => uptoBulkEntries entries + 1
  | .held _ => 1
def uptoBulkAll {H : Type} : List (DataW H) → Nat
  | [] => 0
  | d :: r => uptoBulk d + uptoBulkAll r
def uptoBulkEntries {H : Type} : List (Lit × DataW H) → Nat
  | [] => 0
  | x :: r => uptoBulkEntry x + uptoBulkEntries r
def uptoBulkEntry {H : Type} : Lit × DataW H → Nat
  | (.string bytes, d) => bytes.length + uptoBulk d + 1
  | (_, d) => uptoBulk d + 1
 end
def uptoSmall : (H : Type) → List (DataW H) → Bool := fun _ ds => decide (uptoBulkAll ds ≤ 1048576)
def OpenSpec.upto (s : _root_.Go.ChangeSpec) : _root_.Go.OpenSpec := { _root_.Go.OpenSpec.ofChange s with cond := some uptoSmall }

/-- 'catamaranlaw13.PageTells', WHERE WHAT IT READS IS OF BULK AT MOST 1048576: true; the input reads as it did. -/
def pageTellsUptoRow : OpenClaim := { program := "ytpbnppeodoflcaa", sum := "80c1835bf9117ab2860ac41c58fd08aa42b13a7daaa2f9e677700af16809d487", func := "catamaran/catamaranlaw13.PageTells", spec := "pageTells", apart := false, narrowed := true }
def PageTellsUptoSaid : Prop := pageTellsUptoRow.holds Try.pinned (OpenSpec.upto pageTellsSpec)

/-- 'catamaranlaw03.BitsAsked', WHERE WHAT IT READS IS OF BULK AT MOST 1048576: true; the input reads as it did. -/
def bitsAskedUptoRow : OpenClaim := { program := "ytpbnppeodoflcaa", sum := "80c1835bf9117ab2860ac41c58fd08aa42b13a7daaa2f9e677700af16809d487", func := "catamaran/catamaranlaw03.BitsAsked", spec := "bitsAsked", unfollowed := true, recurses := true, apart := false, narrowed := true }
def BitsAskedUptoSaid : Prop := bitsAskedUptoRow.holds Try.pinned (OpenSpec.upto bitsAskedSpec)

/-- 'catamaranlaw28.ReqTells', WHERE WHAT IT READS IS OF BULK AT MOST 1048576: true; the input reads as it did. -/
def reqTellsUptoRow : OpenClaim := { program := "ytpbnppeodoflcaa", sum := "80c1835bf9117ab2860ac41c58fd08aa42b13a7daaa2f9e677700af16809d487", func := "catamaran/catamaranlaw28.ReqTells", spec := "reqTells", unfollowed := true, recurses := true, apart := false, narrowed := true }
def ReqTellsUptoSaid : Prop := reqTellsUptoRow.holds Try.pinned (OpenSpec.upto reqTellsSpec)

/-- 'catamaranlaw03.BitsBack', WHERE WHAT IT READS IS OF BULK AT MOST 1048576: true; the input reads as it did. -/
def bitsBackUptoRow : OpenClaim := { program := "ytpbnppeodoflcaa", sum := "80c1835bf9117ab2860ac41c58fd08aa42b13a7daaa2f9e677700af16809d487", func := "catamaran/catamaranlaw03.BitsBack", spec := "bitsBack", unfollowed := true, recurses := true, apart := false, narrowed := true }
def BitsBackUptoSaid : Prop := bitsBackUptoRow.holds Try.pinned (OpenSpec.upto bitsBackSpec)

/-- 'catamaranlaw15.FrameTells', WHERE WHAT IT READS IS OF BULK AT MOST 1048576: true; the input reads as it did. -/
def frameTellsUptoRow : OpenClaim := { program := "ytpbnppeodoflcaa", sum := "80c1835bf9117ab2860ac41c58fd08aa42b13a7daaa2f9e677700af16809d487", func := "catamaran/catamaranlaw15.FrameTells", spec := "frameTells", unfollowed := true, recurses := true, apart := false, narrowed := true }
def FrameTellsUptoSaid : Prop := frameTellsUptoRow.holds Try.pinned (OpenSpec.upto frameTellsSpec)

/-- 'catamaranlaw17.SessTicks', WHERE WHAT IT READS IS OF BULK AT MOST 1048576: true; the input reads as it did. -/
def sessTicksUptoRow : OpenClaim := { program := "ytpbnppeodoflcaa", sum := "80c1835bf9117ab2860ac41c58fd08aa42b13a7daaa2f9e677700af16809d487", func := "catamaran/catamaranlaw17.SessTicks", spec := "sessTicks", unfollowed := true, recurses := true, apart := false, narrowed := true }
def SessTicksUptoSaid : Prop := sessTicksUptoRow.holds Try.pinned (OpenSpec.upto sessTicksSpec)

/-- 'catamaranlaw03.BitsNames', WHERE WHAT IT READS IS OF BULK AT MOST 1048576: true; the input reads as it did. -/
def bitsNamesUptoRow : OpenClaim := { program := "ytpbnppeodoflcaa", sum := "80c1835bf9117ab2860ac41c58fd08aa42b13a7daaa2f9e677700af16809d487", func := "catamaran/catamaranlaw03.BitsNames", spec := "bitsNames", unfollowed := true, recurses := true, apart := false, narrowed := true }
def BitsNamesUptoSaid : Prop := bitsNamesUptoRow.holds Try.pinned (OpenSpec.upto bitsNamesSpec)

/-- 'catamaranlaw17.SessTakes', WHERE WHAT IT READS IS OF BULK AT MOST 1048576: true; the input reads as it did. -/
def sessTakesUptoRow : OpenClaim := { program := "ytpbnppeodoflcaa", sum := "80c1835bf9117ab2860ac41c58fd08aa42b13a7daaa2f9e677700af16809d487", func := "catamaran/catamaranlaw17.SessTakes", spec := "sessTakes", unfollowed := true, recurses := true, apart := false, narrowed := true }
def SessTakesUptoSaid : Prop := sessTakesUptoRow.holds Try.pinned (OpenSpec.upto sessTakesSpec)

/-- 'catamaranlaw03.BitsBoth', WHERE WHAT IT READS IS OF BULK AT MOST 1048576: true; the input reads as it did. -/
def bitsBothUptoRow : OpenClaim := { program := "ytpbnppeodoflcaa", sum := "80c1835bf9117ab2860ac41c58fd08aa42b13a7daaa2f9e677700af16809d487", func := "catamaran/catamaranlaw03.BitsBoth", spec := "bitsBoth", unfollowed := true, recurses := true, apart := false, narrowed := true }
def BitsBothUptoSaid : Prop := bitsBothUptoRow.holds Try.pinned (OpenSpec.upto bitsBothSpec)

/-- 'catamaranlaw14.DiffCleans', WHERE WHAT IT READS IS OF BULK AT MOST 1048576: true; the input reads as it did. -/
def diffCleansUptoRow : OpenClaim := { program := "ytpbnppeodoflcaa", sum := "80c1835bf9117ab2860ac41c58fd08aa42b13a7daaa2f9e677700af16809d487", func := "catamaran/catamaranlaw14.DiffCleans", spec := "diffCleans", unfollowed := true, recurses := true, apart := false, narrowed := true }
def DiffCleansUptoSaid : Prop := diffCleansUptoRow.holds Try.pinned (OpenSpec.upto diffCleansSpec)

/-- 'catamaranlaw14.DiffMarks', WHERE WHAT IT READS IS OF BULK AT MOST 1048576: true; the input reads as it did. -/
def diffMarksUptoRow : OpenClaim := { program := "ytpbnppeodoflcaa", sum := "80c1835bf9117ab2860ac41c58fd08aa42b13a7daaa2f9e677700af16809d487", func := "catamaran/catamaranlaw14.DiffMarks", spec := "diffMarks", unfollowed := true, recurses := true, apart := false, narrowed := true }
def DiffMarksUptoSaid : Prop := diffMarksUptoRow.holds Try.pinned (OpenSpec.upto diffMarksSpec)

/-- 'catamaranlaw14.DiffNames', WHERE WHAT IT READS IS OF BULK AT MOST 1048576: true; the input reads as it did. -/
def diffNamesUptoRow : OpenClaim := { program := "ytpbnppeodoflcaa", sum := "80c1835bf9117ab2860ac41c58fd08aa42b13a7daaa2f9e677700af16809d487", func := "catamaran/catamaranlaw14.DiffNames", spec := "diffNames", unfollowed := true, recurses := true, apart := false, narrowed := true }
def DiffNamesUptoSaid : Prop := diffNamesUptoRow.holds Try.pinned (OpenSpec.upto diffNamesSpec)

end Rows
end Go.Proofs.Ytpbnppeodoflcaa
