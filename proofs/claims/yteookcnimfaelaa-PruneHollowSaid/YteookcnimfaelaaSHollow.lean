/- PruneHollow: it returns true, and its arguments read as they did, for all arguments that the form lets in. -/
import Derived.Test.YteookcnimfaelaaM27
set_option linter.unusedVariables false
set_option linter.unusedSimpArgs false
namespace Go.Proofs.Yteookcnimfaelaa.pruneHollows
open Go.WideShapes Go.ChangeShapes Go.ChangeAt Go.RowKit Go.Mw
set_option maxRecDepth 100000
theorem contract (H : Type) (enc : TypeId × Value → H) (W : World) (base : Nat) (args : Array Value) (ds gs : List (DataW H)) (before : List MemPlace)
 (hval : ∀ (j : Nat) t v, Try.f5.params[j]? = some t → args[j]? = some v → Value.okWide Try.prog W .any base t v)
 (hW : DataW.Whole enc Try.prog Try.f5.params.toList Rows.pruneHollowSpec.vars false W args.toList ds gs before)
 (hk : (DataW.weightsEach Try.prog (Try.f5.params.toList ++ Rows.pruneHollowSpec.plain.varTypes Try.prog) (ds ++ gs)).all (· ≤ reachBytes) = true) :
 Calls Try.prog 5 args W fun e W' => ∃ v, e = .returned v ∧ Rows.pruneHollowSpec.post enc Try.prog Try.f5 false true false false W args v W' := by
 have hW' := hW
 obtain ⟨p, q, hA0, hV, rfl, hfz, hnd⟩ := hW
 have hA : DataW.TrodAll enc Try.prog W 0 (fun _ => true) true Try.f5.params.toList args.toList ds p := hA0
 rw [Try.params5] at hA hval hk
 obtain ⟨v0, v1, d0, d1, p0, p1, rfl, rfl, rfl, h0, h1⟩ := trodAll_two hA
 obtain ⟨rfl, rfl⟩ := trodVars_none hV
 have h0k := h0
 have h1k := h1
 have hw0 : WtOk 25 d0 := fun n hn => by
  have := List.all_eq_true.1 hk _ (DataW.weights_mem_each (j := 0) rfl rfl n hn)
  simpa using this
 obtain ⟨fuel0, h0⟩ := h0
 obtain ⟨fuel1, h1⟩ := h1
 obtain ⟨m, hm, hms⟩ := rdw_spc h0
 obtain ⟨ks, hn, _⟩ := rdw_ints h1
 obtain ⟨a1, l1, c1, rfl⟩ := okWide_slice Try.underlying28 (hval 1 28 v1 rfl rfl)
 obtain ⟨cs, rfl⟩ : ∃ cs, v0 = .agg cs := by
  have := hval 0 25 v0 rfl rfl
  simp only [Value.okWide, Try.underlying25] at this
  obtain ⟨cs, h, _⟩ := this; exact ⟨cs, h⟩
 simp only [List.append_nil] at hW'
 refine (calls_true (pruneHollow_ok m (hms hw0) ks) (args := #[.agg cs, .slice a1 l1 c1]) rfl (fun j x c hx hc => ?_)).mono fun e W' ⟨he, hb⟩ => ?_
 ·match j, hx, hc with
  | 0, hx, hc => simp at hx hc; subst hx hc; exact vrel_agg hm
  | 1, hx, hc => simp at hx hc; subst hx hc; exact vrel_one rfl rfl hn
  | j + 2, hx, hc => simp at hx
 ·subst he
  have hlt : ∀ x ∈ p0 ++ p1, x.block < W.heap.size := fun x hx => by simpa using hW'.lt x hx
  exact ⟨_, rfl, post_below hW' rfl (trodAll_mk1 (shut_bool Try.underlying4 _))
   (trodAll_mk2 (Below.trod laidOut (by kernel_rfl) (of_decide_eq_true (by kernel_rfl)) h0k hb (fun x hx => hlt x (List.mem_append_left _ hx))) (Below.trod laidOut (by kernel_rfl) (of_decide_eq_true (by kernel_rfl)) h1k hb (fun x hx => hlt x (List.mem_append_right _ hx)))) rfl hb⟩
theorem lifted (os : Os) (started : os.Started) (H : Type) (enc : TypeId × Value → H) :
 ReturnsInHanded {} Try.checked os 5 .any (Rows.pruneHollowSpec.pre6 enc Try.prog Try.f5 Rows.pruneHollowRow.domain false) (Rows.pruneHollowSpec.post enc Try.prog Try.f5 false true false false) := by
 refine returnsInHanded_of_change_sized (C := Try.checked) Go.Mw.own started (by kernel_rfl) Try.func5
  (ChangeSpec.witness6 (enc := enc) (C := Try.checked) false ⟨#[], #[.agg #[.slice none 0 0, .slice none 0 0], .slice none 0 0], []⟩ 8 (by kernel_rfl) (by kernel_rfl) (by kernel_rfl) (by kernel_rfl)) ?_
 intro W base args ds gs before hval hW _ hk _
 exact contract H enc W base args ds gs before hval hW hk
theorem proved : Rows.PruneHollowSaid :=
 OpenClaim.holds_of_wide 5 Try.f5 rfl rfl rfl rfl rfl rfl rfl ⟨rfl, rfl, rfl, rfl, rfl⟩ rfl rfl rfl rfl rfl (by kernel_rfl) Try.func5 (by kernel_rfl)
  (of_decide_eq_true (by kernel_rfl)) (by unfold Func.isWrapper; first | (rw [if_pos (by decide +kernel)]; kernel_rfl) | (rw [if_neg (by decide +kernel)]; exact ⟨rfl, rfl⟩))
  (fun os started H enc _ => lifted os started H enc)
#print axioms proved
end Go.Proofs.Yteookcnimfaelaa.pruneHollows
