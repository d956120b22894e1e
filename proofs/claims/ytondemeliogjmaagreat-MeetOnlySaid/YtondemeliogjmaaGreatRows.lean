/-
  No cell of these rows narrows 'for every input' (looked for: loops, veiled, ifaces, maps, wideKeys, modest, calm, conditions, laid).
  DERIVED. THE GIVEN ROWS OF THIS SEAT. 6 by the template 'for every input the law returns true; each argument reads behind the call as it read before'; 0 by the template 'total and deterministic' (their statements: YtondemeliogjmaaGreatTotals.lean).
  GIVEN WITH THE SEED: the statements are not yours to turn. If you find one false, say at which input.
  Laid BY PROGRAM, IN A SANDBOX (cutbox-rows.mjs): the forced cells as the released guide's own fill.sh prints them over the translation c6410eb6d8b18f1c… (all of the seat's roots in one cut). By AI agents, Wed Nov 11 2026. No macro, syntax, notation, axiom, sorry.
-/
import Derived.Test.YtondemeliogjmaaGreatChecked
import GoSem.Claim
import GoSem.ClaimJoined
import GoSem.ClaimMapViews
import Derived.JoinedTies
import Derived.KernelRfl
namespace Go.Proofs.YtondemeliogjmaaGreat
/- THE CELL 'sum', in the pinned program and in every row, IS THE sha256 OF THE DUMP (.gsa) THAT YtondemeliogjmaaGreatProg.lean LOADS. Nothing in Lean hashes anything: it is a label: what it is worth is what the hold of that sum in a sandbox is worth. -/
noncomputable def Tryz.pinned : Pinned := { name := "ytondemeliogjmaagreat", sum := "c6410eb6d8b18f1cf547519560703412fed11daa2053cc04d955695bd19cd87e", checked := Tryz.checked }
namespace Rows
def none {H : Type} : Left H := { results := [], args := [] }

/-- 'makeweightlaw07.MeetMakes': WHATEVER THE INPUT: true; the input reads as it did. -/
def meetMakesSpec : ChangeSpec := { name := "meetMakes", fn := fun _ => fun
  | [d1, d2] => { results := [.lit (.bool true)], args := [d1, d2] }
  | _ => none }
def meetMakesRow : OpenClaim := { program := "ytondemeliogjmaagreat", sum := "c6410eb6d8b18f1cf547519560703412fed11daa2053cc04d955695bd19cd87e", func := "makeweight/makeweightlaw07.MeetMakes", spec := "meetMakes", unfollowed := true, recurses := true, plainKeys := false, apart := false }
def MeetMakesSaid : Prop := meetMakesRow.holds Tryz.pinned (OpenSpec.ofChange meetMakesSpec)

/-- ITS FALSE NEIGHBOUR: 'it returns false'. Refute it at one input. -/
def meetMakesWrong : ChangeSpec := { name := "meetMakes", fn := fun _ => fun
  | [d1, d2] => { results := [.lit (.bool false)], args := [d1, d2] }
  | _ => none }
def MeetMakesWrongFalsely : Prop := meetMakesRow.holds Tryz.pinned (OpenSpec.ofChange meetMakesWrong)

/-- 'makeweightlaw07.MeetSeveral': WHATEVER THE INPUT: true; the input reads as it did. -/
def meetSeveralSpec : ChangeSpec := { name := "meetSeveral", fn := fun _ => fun
  | [d1, d2] => { results := [.lit (.bool true)], args := [d1, d2] }
  | _ => none }
def meetSeveralRow : OpenClaim := { program := "ytondemeliogjmaagreat", sum := "c6410eb6d8b18f1cf547519560703412fed11daa2053cc04d955695bd19cd87e", func := "makeweight/makeweightlaw07.MeetSeveral", spec := "meetSeveral", unfollowed := true, recurses := true, plainKeys := false, apart := false }
def MeetSeveralSaid : Prop := meetSeveralRow.holds Tryz.pinned (OpenSpec.ofChange meetSeveralSpec)

/-- ITS FALSE NEIGHBOUR: 'it returns false'. Refute it at one input. -/
def meetSeveralWrong : ChangeSpec := { name := "meetSeveral", fn := fun _ => fun
  | [d1, d2] => { results := [.lit (.bool false)], args := [d1, d2] }
  | _ => none }
def MeetSeveralWrongFalsely : Prop := meetSeveralRow.holds Tryz.pinned (OpenSpec.ofChange meetSeveralWrong)

/-- 'makeweightlaw07.MeetOnly': WHATEVER THE INPUT: true; the input reads as it did. -/
def meetOnlySpec : ChangeSpec := { name := "meetOnly", fn := fun _ => fun
  | [d1, d2] => { results := [.lit (.bool true)], args := [d1, d2] }
  | _ => none }
def meetOnlyRow : OpenClaim := { program := "ytondemeliogjmaagreat", sum := "c6410eb6d8b18f1cf547519560703412fed11daa2053cc04d955695bd19cd87e", func := "makeweight/makeweightlaw07.MeetOnly", spec := "meetOnly", unfollowed := true, recurses := true, plainKeys := false, apart := false }
def MeetOnlySaid : Prop := meetOnlyRow.holds Tryz.pinned (OpenSpec.ofChange meetOnlySpec)

/-- ITS FALSE NEIGHBOUR: 'it returns false'. Refute it at one input. -/
def meetOnlyWrong : ChangeSpec := { name := "meetOnly", fn := fun _ => fun
  | [d1, d2] => { results := [.lit (.bool false)], args := [d1, d2] }
  | _ => none }
def MeetOnlyWrongFalsely : Prop := meetOnlyRow.holds Tryz.pinned (OpenSpec.ofChange meetOnlyWrong)

/-- 'makeweightlaw07.MeetOwn': WHATEVER THE INPUT: true; the input reads as it did. -/
def meetOwnSpec : ChangeSpec := { name := "meetOwn", fn := fun _ => fun
  | [d1, d2, d3] => { results := [.lit (.bool true)], args := [d1, d2, d3] }
  | _ => none }
def meetOwnRow : OpenClaim := { program := "ytondemeliogjmaagreat", sum := "c6410eb6d8b18f1cf547519560703412fed11daa2053cc04d955695bd19cd87e", func := "makeweight/makeweightlaw07.MeetOwn", spec := "meetOwn", unfollowed := true, recurses := true, plainKeys := false, apart := false }
def MeetOwnSaid : Prop := meetOwnRow.holds Tryz.pinned (OpenSpec.ofChange meetOwnSpec)

/-- ITS FALSE NEIGHBOUR: 'it returns false'. Refute it at one input. -/
def meetOwnWrong : ChangeSpec := { name := "meetOwn", fn := fun _ => fun
  | [d1, d2, d3] => { results := [.lit (.bool false)], args := [d1, d2, d3] }
  | _ => none }
def MeetOwnWrongFalsely : Prop := meetOwnRow.holds Tryz.pinned (OpenSpec.ofChange meetOwnWrong)

/-- 'makeweightlaw07.MeetOrders': WHATEVER THE INPUT: true; the input reads as it did. -/
def meetOrdersSpec : ChangeSpec := { name := "meetOrders", fn := fun _ => fun
  | [d1, d2, d3] => { results := [.lit (.bool true)], args := [d1, d2, d3] }
  | _ => none }
def meetOrdersRow : OpenClaim := { program := "ytondemeliogjmaagreat", sum := "c6410eb6d8b18f1cf547519560703412fed11daa2053cc04d955695bd19cd87e", func := "makeweight/makeweightlaw07.MeetOrders", spec := "meetOrders", unfollowed := true, recurses := true, plainKeys := false, apart := false }
def MeetOrdersSaid : Prop := meetOrdersRow.holds Tryz.pinned (OpenSpec.ofChange meetOrdersSpec)

/-- ITS FALSE NEIGHBOUR: 'it returns false'. Refute it at one input. -/
def meetOrdersWrong : ChangeSpec := { name := "meetOrders", fn := fun _ => fun
  | [d1, d2, d3] => { results := [.lit (.bool false)], args := [d1, d2, d3] }
  | _ => none }
def MeetOrdersWrongFalsely : Prop := meetOrdersRow.holds Tryz.pinned (OpenSpec.ofChange meetOrdersWrong)

/-- 'makeweightlaw07.MeetBoth': WHATEVER THE INPUT: true; the input reads as it did. -/
def meetBothSpec : ChangeSpec := { name := "meetBoth", fn := fun _ => fun
  | [d1, d2, d3] => { results := [.lit (.bool true)], args := [d1, d2, d3] }
  | _ => none }
def meetBothRow : OpenClaim := { program := "ytondemeliogjmaagreat", sum := "c6410eb6d8b18f1cf547519560703412fed11daa2053cc04d955695bd19cd87e", func := "makeweight/makeweightlaw07.MeetBoth", spec := "meetBoth", unfollowed := true, recurses := true, plainKeys := false, apart := false }
def MeetBothSaid : Prop := meetBothRow.holds Tryz.pinned (OpenSpec.ofChange meetBothSpec)

/-- ITS FALSE NEIGHBOUR: 'it returns false'. Refute it at one input. -/
def meetBothWrong : ChangeSpec := { name := "meetBoth", fn := fun _ => fun
  | [d1, d2, d3] => { results := [.lit (.bool false)], args := [d1, d2, d3] }
  | _ => none }
def MeetBothWrongFalsely : Prop := meetBothRow.holds Tryz.pinned (OpenSpec.ofChange meetBothWrong)

/- THE SECOND FORM. 'bulk': how many values and letters a reading holds, each counted each time it is reached (what is shared counts as often as it is met; a slice's spare places count too). A statement '..UptoSaid' is the law's where the arguments, and the package variables that the reading takes, are together of bulk at most 1048576: NARROWER than '..Said'. Prove '..Said' where nothing that the law and all that it calls make is longer than what came in: it says more and counts as full. Else prove '..UptoSaid'. A law counts once. -/
mutual
def uptoBulk {H : Type} : DataW H → Nat
  | .lit (.string bytes) => bytes.length + 1
  | .lit _ => 1
  | .nil => 1
  | .ptr d => uptoBulk d + 1
  | .slice elems spare => uptoBulkAll elems + uptoBulkAll spare + 1
  | .agg parts => uptoBulkAll parts + 1
  | .iface _ d => uptoBulk d + 1
  | .map entries => uptoBulkEntries entries + 1
  | .held _ => 1
def uptoBulkAll {H : Type} : List (DataW H) → Nat
  | [] => 0
  | d :: r => uptoBulk d + uptoBulkAll r
def uptoBulkEntries {H : Type} : List (Lit × DataW H) → Nat
  | [] => 0
  | x :: r => uptoBulkEntry x + uptoBulkEntries r
def uptoBulkEntry {H : Type} : Lit × DataW H → Nat
  | (.string bytes, d) => bytes.length + uptoBulk d + 1
  | (_, d) => uptoBulk d + 1
 end
def uptoSmall : (H : Type) → List (DataW H) → Bool := fun _ ds => decide (uptoBulkAll ds ≤ 1048576)
def OpenSpec.upto (s : _root_.Go.ChangeSpec) : _root_.Go.OpenSpec := { _root_.Go.OpenSpec.ofChange s with cond := some uptoSmall }

/-- 'makeweightlaw07.MeetMakes', WHERE WHAT IT READS IS OF BULK AT MOST 1048576: true; the input reads as it did. -/
def meetMakesUptoRow : OpenClaim := { program := "ytondemeliogjmaagreat", sum := "c6410eb6d8b18f1cf547519560703412fed11daa2053cc04d955695bd19cd87e", func := "makeweight/makeweightlaw07.MeetMakes", spec := "meetMakes", unfollowed := true, recurses := true, plainKeys := false, apart := false, narrowed := true }
def MeetMakesUptoSaid : Prop := meetMakesUptoRow.holds Tryz.pinned (OpenSpec.upto meetMakesSpec)

/-- 'makeweightlaw07.MeetSeveral', WHERE WHAT IT READS IS OF BULK AT MOST 1048576: true; the input reads as it did. -/
def meetSeveralUptoRow : OpenClaim := { program := "ytondemeliogjmaagreat", sum := "c6410eb6d8b18f1cf547519560703412fed11daa2053cc04d955695bd19cd87e", func := "makeweight/makeweightlaw07.MeetSeveral", spec := "meetSeveral", unfollowed := true, recurses := true, plainKeys := false, apart := false, narrowed := true }
def MeetSeveralUptoSaid : Prop := meetSeveralUptoRow.holds Tryz.pinned (OpenSpec.upto meetSeveralSpec)

/-- 'makeweightlaw07.MeetOnly', WHERE WHAT IT READS IS OF BULK AT MOST 1048576: true; the input reads as it did. -/
def meetOnlyUptoRow : OpenClaim := { program := "ytondemeliogjmaagreat", sum := "c6410eb6d8b18f1cf547519560703412fed11daa2053cc04d955695bd19cd87e", func := "makeweight/makeweightlaw07.MeetOnly", spec := "meetOnly", unfollowed := true, recurses := true, plainKeys := false, apart := false, narrowed := true }
def MeetOnlyUptoSaid : Prop := meetOnlyUptoRow.holds Tryz.pinned (OpenSpec.upto meetOnlySpec)

/-- 'makeweightlaw07.MeetOwn', WHERE WHAT IT READS IS OF BULK AT MOST 1048576: true; the input reads as it did. -/
def meetOwnUptoRow : OpenClaim := { program := "ytondemeliogjmaagreat", sum := "c6410eb6d8b18f1cf547519560703412fed11daa2053cc04d955695bd19cd87e", func := "makeweight/makeweightlaw07.MeetOwn", spec := "meetOwn", unfollowed := true, recurses := true, plainKeys := false, apart := false, narrowed := true }
def MeetOwnUptoSaid : Prop := meetOwnUptoRow.holds Tryz.pinned (OpenSpec.upto meetOwnSpec)

/-- 'makeweightlaw07.MeetOrders', WHERE WHAT IT READS IS OF BULK AT MOST 1048576: true; the input reads as it did. -/
def meetOrdersUptoRow : OpenClaim := { program := "ytondemeliogjmaagreat", sum := "c6410eb6d8b18f1cf547519560703412fed11daa2053cc04d955695bd19cd87e", func := "makeweight/makeweightlaw07.MeetOrders", spec := "meetOrders", unfollowed := true, recurses := true, plainKeys := false, apart := false, narrowed := true }
def MeetOrdersUptoSaid : Prop := meetOrdersUptoRow.holds Tryz.pinned (OpenSpec.upto meetOrdersSpec)

/-- 'makeweightlaw07.MeetBoth', WHERE WHAT IT READS IS OF BULK AT MOST 1048576: true; the input reads as it did. -/
def meetBothUptoRow : OpenClaim := { program := "ytondemeliogjmaagreat", sum := "c6410eb6d8b18f1cf547519560703412fed11daa2053cc04d955695bd19cd87e", func := "makeweight/makeweightlaw07.MeetBoth", spec := "meetBoth", unfollowed := true, recurses := true, plainKeys := false, apart := false, narrowed := true }
def MeetBothUptoSaid : Prop := meetBothUptoRow.holds Tryz.pinned (OpenSpec.upto meetBothSpec)

end Rows
end Go.Proofs.YtondemeliogjmaaGreat
