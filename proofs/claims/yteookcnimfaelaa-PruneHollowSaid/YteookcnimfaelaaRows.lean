/-
  No cell of these rows narrows 'for every input' (looked for: loops, veiled, ifaces, maps, wideKeys, modest, calm, conditions, laid).
  DERIVED. THE GIVEN ROWS OF THIS SEAT. 3 by the template 'for every input the law returns true; each argument reads behind the call as it read before'; 0 by the template 'total and deterministic' (their statements: YteookcnimfaelaaTotals.lean).
  GIVEN WITH THE SEED: the statements are not yours to turn. If you find one false, say at which input.
  Laid BY PROGRAM, IN A SANDBOX (cutbox-rows.mjs): the forced cells as the released guide's own fill.sh prints them over the translation 4de7520cf92ee0f5… (all of the seat's roots in one cut). By AI agents, Wed Nov 11 2026. No macro, syntax, notation, axiom, sorry.
-/
import Derived.Test.YteookcnimfaelaaChecked
import GoSem.Claim
import GoSem.ClaimJoined
import GoSem.ClaimMapViews
import Derived.JoinedTies
import Derived.KernelRfl
namespace Go.Proofs.Yteookcnimfaelaa
/- THE CELL 'sum', in the pinned program and in every row, IS THE sha256 OF THE DUMP (.gsa) THAT YteookcnimfaelaaProg.lean LOADS. Nothing in Lean hashes anything: it is a label: what it is worth is what the hold of that sum in a sandbox is worth. -/
noncomputable def Try.pinned : Pinned := { name := "yteookcnimfaelaa", sum := "4de7520cf92ee0f5cdaa95a14810ac42842128273832759d11761f609b7aaace", checked := Try.checked }
namespace Rows
def none {H : Type} : Left H := { results := [], args := [] }

/-- 'makeweightlaw04.PruneTrims': WHATEVER THE INPUT: true; the input reads as it did. -/
def pruneTrimsSpec : ChangeSpec := { name := "pruneTrims", fn := fun _ => fun
  | [d] => { results := [.lit (.bool true)], args := [d] }
  | _ => none }
def pruneTrimsRow : OpenClaim := { program := "yteookcnimfaelaa", sum := "4de7520cf92ee0f5cdaa95a14810ac42842128273832759d11761f609b7aaace", func := "makeweight/makeweightlaw04.PruneTrims", spec := "pruneTrims", unfollowed := true, recurses := true, plainKeys := false, apart := false }
def PruneTrimsSaid : Prop := pruneTrimsRow.holds Try.pinned (OpenSpec.ofChange pruneTrimsSpec)

/-- ITS FALSE NEIGHBOUR: 'it returns false'. Refute it at one input. -/
def pruneTrimsWrong : ChangeSpec := { name := "pruneTrims", fn := fun _ => fun
  | [d] => { results := [.lit (.bool false)], args := [d] }
  | _ => none }
def PruneTrimsWrongFalsely : Prop := pruneTrimsRow.holds Try.pinned (OpenSpec.ofChange pruneTrimsWrong)

/-- 'makeweightlaw04.PruneSome': WHATEVER THE INPUT: true; the input reads as it did. -/
def pruneSomeSpec : ChangeSpec := { name := "pruneSome", fn := fun _ => fun
  | [d] => { results := [.lit (.bool true)], args := [d] }
  | _ => none }
def pruneSomeRow : OpenClaim := { program := "yteookcnimfaelaa", sum := "4de7520cf92ee0f5cdaa95a14810ac42842128273832759d11761f609b7aaace", func := "makeweight/makeweightlaw04.PruneSome", spec := "pruneSome", unfollowed := true, recurses := true, plainKeys := false, apart := false }
def PruneSomeSaid : Prop := pruneSomeRow.holds Try.pinned (OpenSpec.ofChange pruneSomeSpec)

/-- ITS FALSE NEIGHBOUR: 'it returns false'. Refute it at one input. -/
def pruneSomeWrong : ChangeSpec := { name := "pruneSome", fn := fun _ => fun
  | [d] => { results := [.lit (.bool false)], args := [d] }
  | _ => none }
def PruneSomeWrongFalsely : Prop := pruneSomeRow.holds Try.pinned (OpenSpec.ofChange pruneSomeWrong)

/-- 'makeweightlaw04.PruneHollow': WHATEVER THE INPUT: true; the input reads as it did. -/
def pruneHollowSpec : ChangeSpec := { name := "pruneHollow", fn := fun _ => fun
  | [d1, d2] => { results := [.lit (.bool true)], args := [d1, d2] }
  | _ => none }
def pruneHollowRow : OpenClaim := { program := "yteookcnimfaelaa", sum := "4de7520cf92ee0f5cdaa95a14810ac42842128273832759d11761f609b7aaace", func := "makeweight/makeweightlaw04.PruneHollow", spec := "pruneHollow", unfollowed := true, recurses := true, plainKeys := false, apart := false }
def PruneHollowSaid : Prop := pruneHollowRow.holds Try.pinned (OpenSpec.ofChange pruneHollowSpec)

/-- ITS FALSE NEIGHBOUR: 'it returns false'. Refute it at one input. -/
def pruneHollowWrong : ChangeSpec := { name := "pruneHollow", fn := fun _ => fun
  | [d1, d2] => { results := [.lit (.bool false)], args := [d1, d2] }
  | _ => none }
def PruneHollowWrongFalsely : Prop := pruneHollowRow.holds Try.pinned (OpenSpec.ofChange pruneHollowWrong)

/- THE SECOND FORM. 'bulk': how many values and letters a reading holds, each counted each time it is reached (what is shared counts as often as it is met; a slice's spare places count too). A statement '..UptoSaid' is the law's where the arguments, and the package variables that the reading takes, are together of bulk at most 1048576: NARROWER than '..Said'. Prove '..Said' where nothing that the law and all that it calls make is longer than what came in: it says more and counts as full. Else prove '..UptoSaid'. A law counts once. -/
mutual
def uptoBulk {H : Type} : DataW H → Nat
  | .lit (.string bytes) => bytes.length + 1
  | .lit _ => 1
  | .nil => 1
  | .ptr d => uptoBulk d + 1
  | .slice elems spare => uptoBulkAll elems + uptoBulkAll spare + 1
  | .agg parts => uptoBulkAll parts + 1
  | .iface _ d => uptoBulk d + 1
  | .map entries => uptoBulkEntries entries + 1
  | .held _ => 1
def uptoBulkAll {H : Type} : List (DataW H) → Nat
  | [] => 0
  | d :: r => uptoBulk d + uptoBulkAll r
def uptoBulkEntries {H : Type} : List (Lit × DataW H) → Nat
  | [] => 0
  | x :: r => uptoBulkEntry x + uptoBulkEntries r
def uptoBulkEntry {H : Type} : Lit × DataW H → Nat
  | (.string bytes, d) => bytes.length + uptoBulk d + 1
  | (_, d) => uptoBulk d + 1
 end
def uptoSmall : (H : Type) → List (DataW H) → Bool := fun _ ds => decide (uptoBulkAll ds ≤ 1048576)
def OpenSpec.upto (s : _root_.Go.ChangeSpec) : _root_.Go.OpenSpec := { _root_.Go.OpenSpec.ofChange s with cond := some uptoSmall }

/-- 'makeweightlaw04.PruneTrims', WHERE WHAT IT READS IS OF BULK AT MOST 1048576: true; the input reads as it did. -/
def pruneTrimsUptoRow : OpenClaim := { program := "yteookcnimfaelaa", sum := "4de7520cf92ee0f5cdaa95a14810ac42842128273832759d11761f609b7aaace", func := "makeweight/makeweightlaw04.PruneTrims", spec := "pruneTrims", unfollowed := true, recurses := true, plainKeys := false, apart := false, narrowed := true }
def PruneTrimsUptoSaid : Prop := pruneTrimsUptoRow.holds Try.pinned (OpenSpec.upto pruneTrimsSpec)

/-- 'makeweightlaw04.PruneSome', WHERE WHAT IT READS IS OF BULK AT MOST 1048576: true; the input reads as it did. -/
def pruneSomeUptoRow : OpenClaim := { program := "yteookcnimfaelaa", sum := "4de7520cf92ee0f5cdaa95a14810ac42842128273832759d11761f609b7aaace", func := "makeweight/makeweightlaw04.PruneSome", spec := "pruneSome", unfollowed := true, recurses := true, plainKeys := false, apart := false, narrowed := true }
def PruneSomeUptoSaid : Prop := pruneSomeUptoRow.holds Try.pinned (OpenSpec.upto pruneSomeSpec)

/-- 'makeweightlaw04.PruneHollow', WHERE WHAT IT READS IS OF BULK AT MOST 1048576: true; the input reads as it did. -/
def pruneHollowUptoRow : OpenClaim := { program := "yteookcnimfaelaa", sum := "4de7520cf92ee0f5cdaa95a14810ac42842128273832759d11761f609b7aaace", func := "makeweight/makeweightlaw04.PruneHollow", spec := "pruneHollow", unfollowed := true, recurses := true, plainKeys := false, apart := false, narrowed := true }
def PruneHollowUptoSaid : Prop := pruneHollowUptoRow.holds Try.pinned (OpenSpec.upto pruneHollowSpec)

end Rows
end Go.Proofs.Yteookcnimfaelaa
