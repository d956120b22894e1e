/- MeetMakes: it returns true, and its arguments read as they did, for all arguments that the form lets in. -/
import Derived.Test.YtondemeliogjmaaGreatM31
set_option linter.unusedVariables false
set_option linter.unusedSimpArgs false
namespace Go.Proofs.YtondemeliogjmaaGreat.meetMakess
open Go.WideShapes Go.ChangeShapes Go.ChangeAt Go.RowKit Go.Mw
set_option maxRecDepth 100000
theorem contract (H:Type)(enc:TypeId×Value→H)(W:World)(base:Nat)(args:Array Value)(ds gs:List (DataW H))(before:List MemPlace)
 (hval:∀(j:Nat) t v,Tryz.f3.params[j]? = some t→args[j]? = some v→Value.okWide Tryz.prog W .any base t v)
 (hW:DataW.Whole enc Tryz.prog Tryz.f3.params.toList Rows.meetMakesSpec.vars false W args.toList ds gs before)
 (hk:(DataW.weightsEach Tryz.prog (Tryz.f3.params.toList++Rows.meetMakesSpec.plain.varTypes Tryz.prog) (ds++gs)).all (· ≤ reachBytes)=true) :
 Calls Tryz.prog 3 args W fun e W'=>∃v,e = .returned v∧Rows.meetMakesSpec.post enc Tryz.prog Tryz.f3 false true false false W args v W':=by
 have hW':=hW;obtain ⟨p,q,hA0,hV,rfl,hfz,hnd⟩:=hW;have hA:DataW.TrodAll enc Tryz.prog W 0 (fun _=>true) true Tryz.f3.params.toList args.toList ds p:=hA0;rw [Tryz.params3] at hA hval hk;obtain ⟨v0,v1,d0,d1,p0,p1,rfl,rfl,rfl,h0,h1⟩:=trodAll_two hA;obtain ⟨rfl,rfl⟩:=trodVars_none hV;have h0k:=h0;have h1k:=h1;have hw0:WtOk 25 d0:=fun n hn=>by
  have:=List.all_eq_true.1 hk _ (DataW.weights_mem_each (j:=0) rfl rfl n hn);simpa using this
 have hw1:WtOk 25 d1:=fun n hn=>by
  have:=List.all_eq_true.1 hk _ (DataW.weights_mem_each (j:=1) rfl rfl n hn);simpa using this
 obtain ⟨fuel0,h0⟩:=h0;obtain ⟨fuel1,h1⟩:=h1;obtain ⟨m,hm,hms⟩:=ZY h0;obtain ⟨k,hn,hns⟩:=ZY h1;have ag:∀ {j:Nat}{v:Value},(#[v0,v1]:Array Value)[j]? = some v→([25,25]:List TypeId)[j]? = some 25→∃cs,v = .agg cs:=fun {j v} hj ht=>by
  have:=hval j 25 v (by simpa using ht) hj;simp only [Value.okWide,Tryz.underlying25] at this;obtain ⟨cs,h,_⟩:=this;exact ⟨cs,h⟩
 obtain ⟨cs,rfl⟩:∃cs,v0 = .agg cs:=ag (j:=0) rfl rfl;obtain ⟨cs2,rfl⟩:∃cs,v1 = .agg cs:=ag (j:=1) rfl rfl;simp only [List.append_nil] at hW';refine (calls_true (Sz m k (hms hw0) (hns hw1)) (args := #[.agg cs,.agg cs2]) rfl (fun j x c hx hc=>?_)).mono fun e W' ⟨he,hb⟩=>?_
 ·match j,hx,hc with
  | 0,hx,hc=>simp at hx hc;subst hx hc;exact Wg hm
  | 1,hx,hc=>simp at hx hc;subst hx hc;exact Wg hn
  | j+2,hx,hc=>simp at hx
 ·subst he;have hlt:∀x∈p0++p1,x.block<W.heap.size:=fun x hx=>by simpa using hW'.lt x hx
  exact ⟨_,rfl,YO hW' rfl (trodAll_mk1 (shut_bool Tryz.underlying4 _))
   (trodAll_mk2 (Below.trod Aao (by kernel_rfl) (of_decide_eq_true (by kernel_rfl)) h0k hb (fun x hx=>hlt x (List.mem_append_left _ hx))) (Below.trod Aao (by kernel_rfl) (of_decide_eq_true (by kernel_rfl)) h1k hb (fun x hx=>hlt x (List.mem_append_right _ hx)))) rfl hb⟩
theorem lifted (os:Os)(started:os.Started)(H:Type)(enc:TypeId×Value→H) :
 ReturnsInHanded {} Tryz.checked os 3 .any (Rows.meetMakesSpec.pre6 enc Tryz.prog Tryz.f3 Rows.meetMakesRow.domain false) (Rows.meetMakesSpec.post enc Tryz.prog Tryz.f3 false true false false):=by
 refine returnsInHanded_of_change_sized (C:=Tryz.checked) Go.Mw.own started (by kernel_rfl) Tryz.func3
  (ChangeSpec.witness6 (enc:=enc) (C:=Tryz.checked) false ⟨#[],#[.agg #[.slice none 0 0,.slice none 0 0],.agg #[.slice none 0 0,.slice none 0 0]],[]⟩ 8 (by kernel_rfl) (by kernel_rfl) (by kernel_rfl) (by kernel_rfl)) ?_
 intro W base args ds gs before hval hW _ hk _;exact contract H enc W base args ds gs before hval hW hk
theorem proved:Rows.MeetMakesSaid :=
 OpenClaim.holds_of_wide 3 Tryz.f3 rfl rfl rfl rfl rfl rfl rfl ⟨rfl,rfl,rfl,rfl,rfl⟩ rfl rfl rfl rfl rfl (by kernel_rfl) Tryz.func3 (by kernel_rfl)
  (of_decide_eq_true (by kernel_rfl)) (by unfold Func.isWrapper;first|(rw [if_pos (by decide +kernel)];kernel_rfl)|(rw [if_neg (by decide +kernel)];exact ⟨rfl,rfl⟩))
  (fun os started H enc _=>lifted os started H enc)
#print axioms proved
end Go.Proofs.YtondemeliogjmaaGreat.meetMakess
