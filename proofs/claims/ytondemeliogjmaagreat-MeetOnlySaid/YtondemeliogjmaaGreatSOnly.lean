/- MeetOnly: it returns true, and its arguments read as they did, for all arguments that the form lets in. -/
import Derived.Test.YtondemeliogjmaaGreatM30
set_option linter.unusedVariables false
set_option linter.unusedSimpArgs false
namespace Go.Proofs.YtondemeliogjmaaGreat.meetOnlys
open Go.WideShapes Go.ChangeShapes Go.ChangeAt Go.RowKit Go.Mw
set_option maxRecDepth 100000
theorem contract (H:Type)(enc:TypeId×Value→H)(W:World)(base:Nat)(args:Array Value)(ds gs:List (DataW H))(before:List MemPlace)
 (hval:∀(j:Nat) t v,Tryz.f5.params[j]? = some t→args[j]? = some v→Value.okWide Tryz.prog W .any base t v)
 (hW:DataW.Whole enc Tryz.prog Tryz.f5.params.toList Rows.meetOnlySpec.vars false W args.toList ds gs before)
 (hk:(DataW.weightsEach Tryz.prog (Tryz.f5.params.toList++Rows.meetOnlySpec.plain.varTypes Tryz.prog) (ds++gs)).all (· ≤ reachBytes)=true) :
 Calls Tryz.prog 5 args W fun e W'=>∃v,e = .returned v∧Rows.meetOnlySpec.post enc Tryz.prog Tryz.f5 false true false false W args v W':=by
 have hW':=hW;obtain ⟨p,q,hA0,hV,rfl,hfz,hnd⟩:=hW;have hA:DataW.TrodAll enc Tryz.prog W 0 (fun _=>true) true Tryz.f5.params.toList args.toList ds p:=hA0;rw [Tryz.params5] at hA hval hk;obtain ⟨v0,v1,d0,d1,p0,p1,rfl,rfl,rfl,h0,h1⟩:=trodAll_two hA;obtain ⟨rfl,rfl⟩:=trodVars_none hV;have h0k:=h0;have h1k:=h1;have hw0:WtOk 25 d0:=fun n hn=>by
  have:=List.all_eq_true.1 hk _ (DataW.weights_mem_each (j:=0) rfl rfl n hn);simpa using this
 have hw1:WtOk 42 d1:=fun n hn=>by
  have:=List.all_eq_true.1 hk _ (DataW.weights_mem_each (j:=1) rfl rfl n hn);simpa using this
 obtain ⟨fuel0,h0⟩:=h0;obtain ⟨fuel1,h1⟩:=h1;obtain ⟨m,hm,hms⟩:=Aia h0;obtain ⟨k,hn,hns⟩:=AbA h1;obtain ⟨cs,rfl⟩:∃cs,v0 = .agg cs:=by
  have:=hval 0 25 v0 rfl rfl;simp only [Value.okWide,Tryz.underlying25] at this;obtain ⟨cs,h,_⟩:=this;exact ⟨cs,h⟩
 obtain ⟨a1,l1,c1,rfl⟩:=okWide_slice Tryz.underlying42 (hval 1 42 v1 rfl rfl);simp only [List.append_nil] at hW';refine (calls_true (Wi m (hms hw0) k (hns hw1).1 (hns hw1).2) (args := #[.agg cs,.slice a1 l1 c1]) rfl (fun j x c hx hc=>?_)).mono fun e W' ⟨he,hb⟩=>?_
 ·match j,hx,hc with
  | 0,hx,hc=>simp at hx hc;subst hx hc;exact Afj hm
  | 1,hx,hc=>simp at hx hc;subst hx hc;exact AeM rfl rfl hn
  | j+2,hx,hc=>simp at hx
 ·subst he;have hlt:∀x∈p0++p1,x.block<W.heap.size:=fun x hx=>by simpa using hW'.lt x hx
  exact ⟨_,rfl,Z1 hW' rfl (trodAll_mk1 (shut_bool Tryz.underlying4 _))
   (trodAll_mk2 (Below.trod Abx (by kernel_rfl) (of_decide_eq_true (by kernel_rfl)) h0k hb (fun x hx=>hlt x (List.mem_append_left _ hx))) (Below.trod Abx (by kernel_rfl) (of_decide_eq_true (by kernel_rfl)) h1k hb (fun x hx=>hlt x (List.mem_append_right _ hx)))) rfl hb⟩
theorem lifted (os:Os)(started:os.Started)(H:Type)(enc:TypeId×Value→H) :
 ReturnsInHanded {} Tryz.checked os 5 .any (Rows.meetOnlySpec.pre6 enc Tryz.prog Tryz.f5 Rows.meetOnlyRow.domain false) (Rows.meetOnlySpec.post enc Tryz.prog Tryz.f5 false true false false):=by
 refine returnsInHanded_of_change_sized (C:=Tryz.checked) Go.Mw.own started (by kernel_rfl) Tryz.func5
  (ChangeSpec.witness6 (enc:=enc) (C:=Tryz.checked) false ⟨#[],#[.agg #[.slice none 0 0,.slice none 0 0],.slice none 0 0],[]⟩ 8 (by kernel_rfl) (by kernel_rfl) (by kernel_rfl) (by kernel_rfl)) ?_
 intro W base args ds gs before hval hW _ hk _;exact contract H enc W base args ds gs before hval hW hk
theorem proved:Rows.MeetOnlySaid :=
 OpenClaim.holds_of_wide 5 Tryz.f5 rfl rfl rfl rfl rfl rfl rfl ⟨rfl,rfl,rfl,rfl,rfl⟩ rfl rfl rfl rfl rfl (by kernel_rfl) Tryz.func5 (by kernel_rfl)
  (of_decide_eq_true (by kernel_rfl)) (by unfold Func.isWrapper;first|(rw [if_pos (by decide +kernel)];kernel_rfl)|(rw [if_neg (by decide +kernel)];exact ⟨rfl,rfl⟩))
  (fun os started H enc _=>lifted os started H enc)
#print axioms proved
end Go.Proofs.YtondemeliogjmaaGreat.meetOnlys
