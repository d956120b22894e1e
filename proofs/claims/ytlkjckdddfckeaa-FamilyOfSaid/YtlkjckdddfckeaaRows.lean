/-
  No cell of these rows narrows 'for every input' (looked for: loops, veiled, ifaces, maps, wideKeys, modest, calm, conditions, laid).
  DERIVED. THE GIVEN ROWS OF THIS SEAT. 5 by the template 'for every input the law returns true; each argument reads behind the call as it read before'; 0 by the template 'total and deterministic' (their statements: YtlkjckdddfckeaaTotals.lean).
  GIVEN WITH THE SEED: the statements are not yours to turn. If you find one false, say at which input.
  Laid BY PROGRAM, IN A SANDBOX (cutbox-rows.mjs): the forced cells as the released guide's own fill.sh prints them over the translation 963449b495ae09fc… (all of the seat's roots in one cut). By AI agents, Wed Nov 11 2026. No macro, syntax, notation, axiom, sorry.
-/
import Derived.Test.YtlkjckdddfckeaaChecked
import GoSem.Claim
import GoSem.ClaimJoined
import GoSem.ClaimMapViews
import Derived.JoinedTies
import Derived.KernelRfl
namespace Go.Proofs.Ytlkjckdddfckeaa
/- THE CELL 'sum', in the pinned program and in every row, IS THE sha256 OF THE DUMP (.gsa) THAT YtlkjckdddfckeaaProg.lean LOADS. Nothing in Lean hashes anything: it is a label: what it is worth is what the hold of that sum in a sandbox is worth. -/
noncomputable def Try.pinned : Pinned := { name := "ytlkjckdddfckeaa", sum := "963449b495ae09fc21323aeea267982172c9aaa13f3fe3f29ec075e44ede1804", checked := Try.checked }
namespace Rows
def none {H : Type} : Left H := { results := [], args := [] }

/-- 'makeweightlaw16.FamilyDecides': WHATEVER THE INPUT: true; the input reads as it did. -/
def familyDecidesSpec : ChangeSpec := { name := "familyDecides", fn := fun _ => fun
  | [d1, d2] => { results := [.lit (.bool true)], args := [d1, d2] }
  | _ => none }
def familyDecidesRow : OpenClaim := { program := "ytlkjckdddfckeaa", sum := "963449b495ae09fc21323aeea267982172c9aaa13f3fe3f29ec075e44ede1804", func := "makeweight/makeweightlaw16.FamilyDecides", spec := "familyDecides", unfollowed := true, recurses := true, plainKeys := false, apart := false }
def FamilyDecidesSaid : Prop := familyDecidesRow.holds Try.pinned (OpenSpec.ofChange familyDecidesSpec)

/-- ITS FALSE NEIGHBOUR: 'it returns false'. Refute it at one input. -/
def familyDecidesWrong : ChangeSpec := { name := "familyDecides", fn := fun _ => fun
  | [d1, d2] => { results := [.lit (.bool false)], args := [d1, d2] }
  | _ => none }
def FamilyDecidesWrongFalsely : Prop := familyDecidesRow.holds Try.pinned (OpenSpec.ofChange familyDecidesWrong)

/-- 'makeweightlaw16.FamilyProducts': WHATEVER THE INPUT: true; the input reads as it did. -/
def familyProductsSpec : ChangeSpec := { name := "familyProducts", fn := fun _ => fun
  | [d1, d2] => { results := [.lit (.bool true)], args := [d1, d2] }
  | _ => none }
def familyProductsRow : OpenClaim := { program := "ytlkjckdddfckeaa", sum := "963449b495ae09fc21323aeea267982172c9aaa13f3fe3f29ec075e44ede1804", func := "makeweight/makeweightlaw16.FamilyProducts", spec := "familyProducts", unfollowed := true, recurses := true, plainKeys := false, apart := false }
def FamilyProductsSaid : Prop := familyProductsRow.holds Try.pinned (OpenSpec.ofChange familyProductsSpec)

/-- ITS FALSE NEIGHBOUR: 'it returns false'. Refute it at one input. -/
def familyProductsWrong : ChangeSpec := { name := "familyProducts", fn := fun _ => fun
  | [d1, d2] => { results := [.lit (.bool false)], args := [d1, d2] }
  | _ => none }
def FamilyProductsWrongFalsely : Prop := familyProductsRow.holds Try.pinned (OpenSpec.ofChange familyProductsWrong)

/-- 'makeweightlaw16.FamilyRestricts': WHATEVER THE INPUT: true; the input reads as it did. -/
def familyRestrictsSpec : ChangeSpec := { name := "familyRestricts", fn := fun _ => fun
  | [d1, d2] => { results := [.lit (.bool true)], args := [d1, d2] }
  | _ => none }
def familyRestrictsRow : OpenClaim := { program := "ytlkjckdddfckeaa", sum := "963449b495ae09fc21323aeea267982172c9aaa13f3fe3f29ec075e44ede1804", func := "makeweight/makeweightlaw16.FamilyRestricts", spec := "familyRestricts", unfollowed := true, recurses := true, plainKeys := false, apart := false }
def FamilyRestrictsSaid : Prop := familyRestrictsRow.holds Try.pinned (OpenSpec.ofChange familyRestrictsSpec)

/-- ITS FALSE NEIGHBOUR: 'it returns false'. Refute it at one input. -/
def familyRestrictsWrong : ChangeSpec := { name := "familyRestricts", fn := fun _ => fun
  | [d1, d2] => { results := [.lit (.bool false)], args := [d1, d2] }
  | _ => none }
def FamilyRestrictsWrongFalsely : Prop := familyRestrictsRow.holds Try.pinned (OpenSpec.ofChange familyRestrictsWrong)

/-- 'makeweightlaw16.FamilyParts': WHATEVER THE INPUT: true; the input reads as it did. -/
def familyPartsSpec : ChangeSpec := { name := "familyParts", fn := fun _ => fun
  | [d1, d2] => { results := [.lit (.bool true)], args := [d1, d2] }
  | _ => none }
def familyPartsRow : OpenClaim := { program := "ytlkjckdddfckeaa", sum := "963449b495ae09fc21323aeea267982172c9aaa13f3fe3f29ec075e44ede1804", func := "makeweight/makeweightlaw16.FamilyParts", spec := "familyParts", unfollowed := true, recurses := true, plainKeys := false, apart := false }
def FamilyPartsSaid : Prop := familyPartsRow.holds Try.pinned (OpenSpec.ofChange familyPartsSpec)

/-- ITS FALSE NEIGHBOUR: 'it returns false'. Refute it at one input. -/
def familyPartsWrong : ChangeSpec := { name := "familyParts", fn := fun _ => fun
  | [d1, d2] => { results := [.lit (.bool false)], args := [d1, d2] }
  | _ => none }
def FamilyPartsWrongFalsely : Prop := familyPartsRow.holds Try.pinned (OpenSpec.ofChange familyPartsWrong)

/-- 'makeweightlaw16.FamilyOf': WHATEVER THE INPUT: true; the input reads as it did. -/
def familyOfSpec : ChangeSpec := { name := "familyOf", fn := fun _ => fun
  | [d1, d2] => { results := [.lit (.bool true)], args := [d1, d2] }
  | _ => none }
def familyOfRow : OpenClaim := { program := "ytlkjckdddfckeaa", sum := "963449b495ae09fc21323aeea267982172c9aaa13f3fe3f29ec075e44ede1804", func := "makeweight/makeweightlaw16.FamilyOf", spec := "familyOf", unfollowed := true, recurses := true, plainKeys := false, apart := false }
def FamilyOfSaid : Prop := familyOfRow.holds Try.pinned (OpenSpec.ofChange familyOfSpec)

/-- ITS FALSE NEIGHBOUR: 'it returns false'. Refute it at one input. -/
def familyOfWrong : ChangeSpec := { name := "familyOf", fn := fun _ => fun
  | [d1, d2] => { results := [.lit (.bool false)], args := [d1, d2] }
  | _ => none }
def FamilyOfWrongFalsely : Prop := familyOfRow.holds Try.pinned (OpenSpec.ofChange familyOfWrong)

/- THE SECOND FORM. 'bulk': how many values and letters a reading holds, each counted each time it is reached (what is shared counts as often as it is met; a slice's spare places count too). A statement '..UptoSaid' is the law's where the arguments, and the package variables that the reading takes, are together of bulk at most 1048576: NARROWER than '..Said'. Prove '..Said' where nothing that the law and all that it calls make is longer than what came in: it says more and counts as full. Else prove '..UptoSaid'. A law counts once. -/
mutual
def uptoBulk {H : Type} : DataW H → Nat
  | .lit (.string bytes) => bytes.length + 1
  | .lit _ => 1
  | .nil => 1
  | .ptr d => uptoBulk d + 1
  | .slice elems spare => uptoBulkAll elems + uptoBulkAll spare + 1
  | .agg parts => uptoBulkAll parts + 1
  | .iface _ d => uptoBulk d + 1
  | .map entries => uptoBulkEntries entries + 1
  | .held _ => 1
def uptoBulkAll {H : Type} : List (DataW H) → Nat
  | [] => 0
  | d :: r => uptoBulk d + uptoBulkAll r
def uptoBulkEntries {H : Type} : List (Lit × DataW H) → Nat
  | [] => 0
  | x :: r => uptoBulkEntry x + uptoBulkEntries r
def uptoBulkEntry {H : Type} : Lit × DataW H → Nat
  | (.string bytes, d) => bytes.length + uptoBulk d + 1
  | (_, d) => uptoBulk d + 1
 end
def uptoSmall : (H : Type) → List (DataW H) → Bool := fun _ ds => decide (uptoBulkAll ds ≤ 1048576)
def OpenSpec.upto (s : _root_.Go.ChangeSpec) : _root_.Go.OpenSpec := { _root_.Go.OpenSpec.ofChange s with cond := some uptoSmall }

/-- 'makeweightlaw16.FamilyDecides', WHERE WHAT IT READS IS OF BULK AT MOST 1048576: true; the input reads as it did. -/
def familyDecidesUptoRow : OpenClaim := { program := "ytlkjckdddfckeaa", sum := "963449b495ae09fc21323aeea267982172c9aaa13f3fe3f29ec075e44ede1804", func := "makeweight/makeweightlaw16.FamilyDecides", spec := "familyDecides", unfollowed := true, recurses := true, plainKeys := false, apart := false, narrowed := true }
def FamilyDecidesUptoSaid : Prop := familyDecidesUptoRow.holds Try.pinned (OpenSpec.upto familyDecidesSpec)

/-- 'makeweightlaw16.FamilyProducts', WHERE WHAT IT READS IS OF BULK AT MOST 1048576: true; the input reads as it did. -/
def familyProductsUptoRow : OpenClaim := { program := "ytlkjckdddfckeaa", sum := "963449b495ae09fc21323aeea267982172c9aaa13f3fe3f29ec075e44ede1804", func := "makeweight/makeweightlaw16.FamilyProducts", spec := "familyProducts", unfollowed := true, recurses := true, plainKeys := false, apart := false, narrowed := true }
def FamilyProductsUptoSaid : Prop := familyProductsUptoRow.holds Try.pinned (OpenSpec.upto familyProductsSpec)

/-- 'makeweightlaw16.FamilyRestricts', WHERE WHAT IT READS IS OF BULK AT MOST 1048576: true; the input reads as it did. -/
def familyRestrictsUptoRow : OpenClaim := { program := "ytlkjckdddfckeaa", sum := "963449b495ae09fc21323aeea267982172c9aaa13f3fe3f29ec075e44ede1804", func := "makeweight/makeweightlaw16.FamilyRestricts", spec := "familyRestricts", unfollowed := true, recurses := true, plainKeys := false, apart := false, narrowed := true }
def FamilyRestrictsUptoSaid : Prop := familyRestrictsUptoRow.holds Try.pinned (OpenSpec.upto familyRestrictsSpec)

/-- 'makeweightlaw16.FamilyParts', WHERE WHAT IT READS IS OF BULK AT MOST 1048576: true; the input reads as it did. -/
def familyPartsUptoRow : OpenClaim := { program := "ytlkjckdddfckeaa", sum := "963449b495ae09fc21323aeea267982172c9aaa13f3fe3f29ec075e44ede1804", func := "makeweight/makeweightlaw16.FamilyParts", spec := "familyParts", unfollowed := true, recurses := true, plainKeys := false, apart := false, narrowed := true }
def FamilyPartsUptoSaid : Prop := familyPartsUptoRow.holds Try.pinned (OpenSpec.upto familyPartsSpec)

/-- 'makeweightlaw16.FamilyOf', WHERE WHAT IT READS IS OF BULK AT MOST 1048576: true; the input reads as it did. -/
def familyOfUptoRow : OpenClaim := { program := "ytlkjckdddfckeaa", sum := "963449b495ae09fc21323aeea267982172c9aaa13f3fe3f29ec075e44ede1804", func := "makeweight/makeweightlaw16.FamilyOf", spec := "familyOf", unfollowed := true, recurses := true, plainKeys := false, apart := false, narrowed := true }
def FamilyOfUptoSaid : Prop := familyOfUptoRow.holds Try.pinned (OpenSpec.upto familyOfSpec)

end Rows
end Go.Proofs.Ytlkjckdddfckeaa
