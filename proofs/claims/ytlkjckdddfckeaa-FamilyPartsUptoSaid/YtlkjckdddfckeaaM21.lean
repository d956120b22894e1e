/- From the abstract machine to a row. -/
import Derived.Test.YtlkjckdddfckeaaM20
import Derived.ProofKit
import Derived.OpenShut
import Derived.JoinedCond
namespace Go.Mw
open Go.WideShapes Go.ChangeShapes Go.ChangeAt Go.RowKit Go.Proofs
open Go.Proofs.Ytlkjckdddfckeaa (Rows.uptoBulk Rows.uptoBulkAll)
set_option linter.unusedVariables false
set_option maxRecDepth 100000
theorem own : ownKnob Try.prog.godebug = none := by kernel_rfl
theorem laidOut : laidOutB Try.prog = true := by kernel_rfl
theorem packV_true {xs : List AV} {b : Bool} (h : packV xs = .bool b) : xs = [.bool b] := by
  match xs, h with
  | [x], h => rw [show packV [x] = x from rfl] at h; rw [h]
  | [], h => cases h
  | _ :: _ :: _, h => cases h
theorem vrel_bool {w : World} {fz : Nat → Prop} {R : AV → Value → Prop} {b : Bool} {c : Value} (h : VRel w fz R (.bool b) c) : c = .bool b := by
  cases h with
  | base v c h => cases h; rfl
  | ref v c hv h => cases hv
/-- A function that answers true on data. -/
theorem calls_true {f : FuncId} {xs : List AV} (h : FnT G f xs (Bo true)) {w : World} {args : Array Value} (ha : args.size = xs.length)
    (hv : ∀ (j : Nat) (x : AV) (c : Value), xs[j]? = some x → args[j]? = some c → VRel0 w (fun b => b < w.heap.size) x c) :
    Calls Try.prog f args w fun e w' => e = .returned (.bool true) ∧ Below w.heap.size w w' := by
  obtain ⟨F, n, rs, σ1, hf, h1, h2, h3, h4, hr, hR, hfl⟩ := h
  refine (sound good hf h1 hr (w := w) (fz := fun b => b < w.heap.size) (fun b hb => hb) (args := args) ⟨by simpa using ha, fun j v c hj hc => .base _ _ (hv j v c hj (by rw [Array.getElem?_toList] at hc; exact hc))⟩).mono ?_
  rintro e w' ⟨cs, he, hb, fz', hl, hcs⟩
  have e1 := packV_true hR
  rw [e1] at hl hcs
  match cs, hl with
  | [c], _ =>
    have := vrel_bool (hcs 0 _ c rfl rfl)
    subst this
    exact ⟨he, hb⟩
theorem post_below {H : Type} {enc : TypeId × Value → H} {f : Func} {s : ChangeSpec} {W W' : World} {args : Array Value} {v : Value} {ds : List (DataW H)} {before : List MemPlace}
    (hW : DataW.Whole enc Try.prog f.params.toList s.vars false W args.toList ds [] before) (hvs : s.vars = [])
    (hres : DataW.TrodAll enc Try.prog W' W.heap.size (fun _ => false) false f.resultTypes.toList (v.resultList f.resultTypes.size) (s.fn H (ds ++ [])).results [])
    (hargs : DataW.TrodAll enc Try.prog W' 0 (fun b => decide (b < W.heap.size)) true f.params.toList args.toList (s.fn H (ds ++ [])).args before)
    (hsv : (s.fn H (ds ++ [])).vars = []) (hb : Below W.heap.size W W') :
    s.post enc Try.prog f false true false false W args v W' := by
  refine ⟨ds, [], before, [], before, [], hW, hres, hargs, by rw [hvs, hsv]; rfl, World.keptBut_mono (fun p hp => ⟨hp, Or.inr (Or.inl hp)⟩) (hb.frame _), fun h => by cases h⟩
end Go.Mw
