/- The reference's place: where a pair is in a list, which is the caller's. -/
import Derived.Test.YtondemeliogjmaaGreatM27
set_option linter.unusedVariables false
set_option linter.unusedSimpArgs false
namespace Go.Mw
set_option maxRecDepth 100000
theorem place_ok {H:List Ob}{r st ss s0 bs s:Nat}{l:List Pr}{q:Pr}(hr:H[r]? = some ⟨st,ss,.own 2 (l.map ePr)⟩)(hl:l.length≤100000)(hnd:l.Nodup){t:List AV}{lp:List Lp}{K:AV→St→Prop}
 (h1:q∈l→K (.tup [I (l.idxOf q:Nat),.sl r st [] s0 0 l.length]) ⟨t,H,lp⟩)
 (h2:q∉l→LX (H.set r ⟨st,ss,.gone⟩) (bs+s) (.own 2 (l.map ePr++[ePr q])) (fun h st'=>K (.tup [I l.length,.sl (bs+s) st' [] 0 0 (l.length+1)]) ⟨t,h,lp⟩)) :
 AM G FP [.sl r st [] s0 0 l.length,ePr q] bs [s] ⟨t,H,lp⟩ K:=by
 have hrl:r<H.length:=List.lt_of_some hr;have hr':∀os,(H++os)[r]? = some ⟨st,ss,.own 2 (l.map ePr)⟩:=fun os=>by rw [Aew hrl];exact hr
 refine Sm Vq rfl ?_;rw [AI (by simp)];obtain ⟨q1,q2⟩:=q;simp only [go_sem,↓reduceIte,↓Aa,O1,ePr,Sg,Xg,ap_shi,Qj,hr'];refine Ac (fun (i:Nat) σ=>i≤l.length∧(∀j<i,l[j]!≠(q1,q2))∧∃a1 c1,σ=⟨aT .undef 27 [(0,.sl r st [] s0 0 l.length),(3,.ptr H.length 1 [] 0 0 0),(8,.sl r st [] s0 0 l.length),(9,I l.length),(10,I i)],H++[⟨1,0,.own 2 [.agg [I q1,I q2]]⟩,⟨a1,c1,.gone⟩,⟨0,0,.gone⟩,⟨0,0,.gone⟩],lp⟩) (fun i=>l.length-i) ?_ 0 ?_
 ·rintro i σ ⟨hi,hne,a1,c1,rfl⟩ N Q hQ hN;by_cases hlt:i<l.length
  ·simp only [go_sem,↓reduceIte,↓Aa,Int.ofNat_lt,hlt,ePr,Sg,Xg,ap_shi,Qj,hr',Ab hlt (by omega)];refine ⟨fun h=>?_,fun h=>?_⟩
   ·have he:l[i]! = (q1,q2):=by
     simp only [bne_iff_ne,ne_eq,Bool.not_eq_false,Bool.and_eq_true,beq_iff_eq] at h;exact Prod.ext h.1.symm h.2.symm
    subst hQ;simp only [go_sem,↓reduceIte,↓Aa,Aad hrl,OJ];have hix:l.idxOf (q1,q2)=i:=by
     rw [←he,getElem!_pos l i hlt];exact hnd.idxOf_getElem i hlt
    have:=h1 (he▸AU hlt);rw [hix] at this;exact this
   ·have he:l[i]!≠(q1,q2):=fun e=>by rw [e] at h;simp at h
    refine hN (i+1) _ (by omega) ⟨by omega,Ae hne he,?_⟩;simp only [go_sem,↓reduceIte,↓Aa,Wt];repeat apply Exists.intro
    rfl
  ·have hil:i=l.length:=by omega
   subst hil hQ;have hnm:(q1,q2)∉l:=fun hm=>by
    obtain ⟨j,hj,e⟩:=getAt hm;exact hne j hj e
   simp only [go_sem,↓reduceIte,↓Aa,Int.ofNat_lt,hlt,ePr,Sg,Xg,ap_shi,Qj,Afz hrl,hr',AdR,Aez];refine ⟨⟨by omega,rfl⟩,?_⟩;have h2':=h2 hnm;have hall:(l.map ePr++[ePr (q1,q2)]).all (fun e:AV=>e.cells.all AV.plain)=true:=by
    rw [List.all_eq_true];intro x hx;rw [List.mem_append,List.mem_map,List.mem_singleton] at hx;rcases hx with ⟨p,_,rfl⟩|rfl<;>rfl
   rw [Aan (show H.length≤H.length+3 by omega),Abz];simp only [go_sem,↓reduceIte,↓Aa,AdR];rw [newK_eq] at h2';exact ⟨hall,h2'⟩
 ·refine ⟨by omega,fun j hj=>by omega,?_⟩;simp only [go_sem,↓reduceIte,↓Aa,Wt];repeat apply Exists.intro
  rfl
def padX (n:Nat)(X:List Int):List Int:=X++List.replicate (n-X.length) (-1)
theorem TC {l:List Stt}:(l.map rowS).map frz=l.map eSt:=by rw [List.map_map];congr 1;funext x;exact frz_rowS x
theorem J5 {n:Nat}{X:List Int}{k:Int}(h:X.length<n):(padX n X).set X.length k=padX n (X++[k]):=by
 unfold padX;obtain ⟨d,hd⟩:∃d,n-X.length=d+1:=⟨n-X.length-1,by omega⟩;rw [List.set_append_right _ _ (Nat.le_refl _),Nat.sub_self,hd,List.replicate_succ,List.set_cons_zero,List.length_append,List.length_singleton,show n-(X.length+1)=d by omega,List.append_assoc];rfl
theorem SH {n:Nat}{X:List Int}(h:X.length<n):padX n (X++[-1])=padX n X:=by
 unfold padX;obtain ⟨d,hd⟩:∃d,n-X.length=d+1:=⟨n-X.length-1,by omega⟩;rw [hd,List.replicate_succ,List.length_append,List.length_singleton,show n-(X.length+1)=d by omega,List.append_assoc];rfl
theorem VY {n:Nat}{X:List Int}(h:X.length=n):padX n X=X:=by unfold padX;rw [h,Nat.sub_self];simp
theorem Wf {n:Nat}:padX n []=List.replicate n (-1):=by unfold padX;simp
section
variable {m q:Nat}{s t:Spc}(hs:SpcK m s) (ht:SpcK q t) (he:t.acts=s.acts)
include hs ht he
theorem WJ (hsn:s.S.length≤60)(htn:t.S.length≤60):∃W l,PS (gdM s.S.length t.S.length) s.acts (fun p v=>v∈Fy s t p) (nxP s t) (goM s t) W l∧Fn G f_r07_Meet [eSp s,eSp t] (eSp W):=by
 suffices hh:FnP G f_r07_Meet [eSp s,eSp t] (fun rs h=>∃W l,PS (gdM s.S.length t.S.length) s.acts (fun p v=>v∈Fy s t p) (nxP s t) (goM s t) W l∧packV (treeBL 0 h rs)=eSp W) by
  obtain ⟨v,⟨W,l,hP,rfl⟩,hf⟩:=FnP.ex (P:=fun v=>∃W l,PS (gdM s.S.length t.S.length) s.acts (fun p v=>v∈Fy s t p) (nxP s t) (goM s t) W l∧v=eSp W) hh;exact ⟨W,l,hP,hf⟩
 have hk8:=AH hs.acts;have hs1:=hs.s1;have ht1:=ht.s1;have hs2:=hs.s2;have ht2:=ht.s2;have hnm:s.S.length*t.S.length≤60*60:=Nat.mul_le_mul hsn htn;refine FnP.mk' Yf rfl rfl ?_;simp only [go_sem,↓reduceIte,↓Aa,QA,eSp];refine ⟨by omega,?_⟩;refine Ac (fun (g:List Pr×List Stt) σ=>CI (gdM s.S.length t.S.length) s.acts.length (Fy s t) (nxP s t) (goM s t) g.2.length g.1 g.2∧∃a3 c3 z4 s5 c5 a6 c6 a7 c7 a8 c8 a9 c9 a10 c10 a11 c11 a12 c12 a13 c13 a14 c14 a15 c15,mv1 0 6 5 σ=⟨aT .undef 98 [(6,.sl 5 s5 [] 0 0 g.1.length),(2,.ptr 0 1 [] 0 0 0),(3,.ptr 1 1 [] 0 0 0),(4,.ptr 2 1 [] 0 0 0),(5,.ptr 4 1 [] 0 0 0),(7,I g.2.length)],[⟨1,0,.own 2 [.agg [.lst (s.acts.map .str),.lst (s.S.map eSt)]]⟩,⟨1,0,.own 2 [.agg [.lst (t.acts.map .str),.lst (t.S.map eSt)]]⟩,⟨1,0,.own 2 [.agg [.nils,.nils]]⟩,⟨a3,c3,.gone⟩,⟨1,z4,.own 2 [.agg [cellv .nils 1 (s.acts.map .str),cellv .nils 2 (g.2.map rowS)]]⟩,⟨s5,c5,.own 2 (g.1.map ePr)⟩,⟨a6,c6,.gone⟩,⟨a7,c7,.gone⟩,⟨a8,c8,.gone⟩,⟨a9,c9,.gone⟩,⟨a10,c10,.gone⟩,⟨a11,c11,.gone⟩,⟨a12,c12,.gone⟩,⟨a13,c13,.gone⟩,⟨a14,c14,.gone⟩,⟨a15,c15,.gone⟩],[]⟩) (fun g=>4000-g.2.length) ?_ ([(0,0)],[]) ?_
 ·rintro ⟨l,outs⟩ σ ⟨hI,a3,c3,z4,s5,c5,a6,c6,a7,c7,a8,c8,a9,c9,a10,c10,a11,c11,a12,c12,a13,c13,a14,c14,a15,c15,hσ⟩ N Q hQ hN;simp only at hI hσ;rw [Qz,hσ];have hil:=hI.il;have hll:=F4 hI.nd (fun p hp=>Np (hI.good p hp));by_cases hlt:outs.length<l.length
  ·have hgp:=hI.good _ (AU hlt);have hnext:=fun {a:Nat}{l':List Pr}{X:List Int}=>hI.next (a:=a) (l:=l') (X:=X) hlt;have hsM:Fy s t l[outs.length]! = (acL7 s l[outs.length]!.1).filter fun v=>decide (v∈acL7 t l[outs.length]!.2):=by
    obtain ⟨h1,h2,h3,h4⟩:=hgp;unfold Fy acL7;rw [if_neg (by omega),if_neg (by omega)]
   generalize hpe:l[outs.length]! = p at *;obtain ⟨p1,p2⟩:=p;obtain ⟨g1,g2,g3,g4⟩:=hgp;simp only at g1 g2 g3 g4 hsM;have c1:∀ {roots:List Nat}{b:Nat}{ss:List Nat}{σ:St}{k:AV→St→Prop},callT G A9 [.agg [.lst (s.acts.map .str),.lst (s.S.map eSt)],I p1] true roots b ss σ k=k (.lst ((acL7 s p1).map I)) σ:=(QL s p1 g2).rule;have c2:∀ {roots:List Nat}{b:Nat}{ss:List Nat}{σ:St}{k:AV→St→Prop},callT G A9 [.agg [.lst (t.acts.map .str),.lst (t.S.map eSt)],I p2] true roots b ss σ k=k (.lst ((acL7 t p2).map I)) σ:=(QL t p2 g4).rule;simp only [go_sem,↓reduceIte,↓Aa,Int.ofNat_lt,hlt,ePr,hpe,c1];refine Ac (fun (j:Nat) σ=>j≤(acL7 s p1).length∧∃z7 a8 c8 a9 c9 a10 c10 a11 c11 a12 c12 a13 c13 a14 c14 a15 c15,σ=⟨aT .undef 98 [(2,.ptr 0 1 [] 0 0 0),(3,.ptr 1 1 [] 0 0 0),(4,.ptr 2 1 [] 0 0 0),(5,.ptr 4 1 [] 0 0 0),(6,.sl 5 s5 [] 0 0 l.length),(7,I outs.length),(8,.ptr 6 (a6+1) [] 0 0 0),(9,.ptr 7 (a7+1) [] 0 0 0),(34,.lst ((acL7 s p1).map I)),(35,I (acL7 s p1).length),(36,I j)],[⟨1,0,.own 2 [.agg [.lst (s.acts.map .str),.lst (s.S.map eSt)]]⟩,⟨1,0,.own 2 [.agg [.lst (t.acts.map .str),.lst (t.S.map eSt)]]⟩,⟨1,0,.own 2 [.agg [.nils,.nils]]⟩,⟨a3,c3,.gone⟩,⟨1,z4,.own 2 [.agg [cellv .nils 1 (s.acts.map .str),cellv .nils 2 (outs.map rowS)]]⟩,⟨s5,c5,.own 2 (l.map ePr)⟩,⟨a6+1,0,.own 2 [.agg [I p1,I p2]]⟩,⟨a7+1,z7,.own 2 [.agg [cellv .nils 1 ((((acL7 s p1).take j).filter fun v=>decide (v∈acL7 t p2)).map I),.nils]]⟩,⟨a8,c8,.gone⟩,⟨a9,c9,.gone⟩,⟨a10,c10,.gone⟩,⟨a11,c11,.gone⟩,⟨a12,c12,.gone⟩,⟨a13,c13,.gone⟩,⟨a14,c14,.gone⟩,⟨a15,c15,.gone⟩],[]⟩) (fun j=>(acL7 s p1).length-j) ?_ 0 ?_
   ·rintro j σ ⟨hj,z7,a8,c8,a9,c9,a10,c10,a11,c11,a12,c12,a13,c13,a14,c14,a15,c15,rfl⟩ N2 Q2 hQ2 hN2;have hal:=(EI hs g2).2;have hbl:=(EI ht g4).2;by_cases hlt2:j<(acL7 s p1).length
    ·have hfl:(((acL7 s p1).take j).filter fun v=>decide (v∈acL7 t p2)).length≤j:=Nat.le_trans (List.length_filter_le _ _) (by rw [List.length_take];omega);have htk:((acL7 s p1).take (j+1)).filter (fun v=>decide (v∈acL7 t p2))=((acL7 s p1).take j).filter (fun v=>decide (v∈acL7 t p2))++if (acL7 s p1)[j]!∈acL7 t p2 then [(acL7 s p1)[j]!] else []:=by
      rw [List.take_succ_eq_append_getElem hlt2,List.filter_append,←getElem!_pos (acL7 s p1) j hlt2];generalize (acL7 s p1)[j]! = w;by_cases hm:w∈acL7 t p2<;>simp [hm]
     simp only [go_sem,↓reduceIte,↓Aa,Int.ofNat_lt,hlt2,Ab hlt2 (by omega),c2,AfW (show (acL7 t p2).length≤1048576 by omega)];refine ⟨fun hm=>⟨by omega,hN2 (j+1) _ (by omega) ⟨by omega,?_⟩⟩,fun hm=>hN2 (j+1) _ (by omega) ⟨by omega,?_⟩⟩
     ·simp only [go_sem,↓reduceIte,↓Aa,htk,hm,if_true,List.map_append];repeat apply Exists.intro
      rfl
     ·simp only [go_sem,↓reduceIte,↓Aa,htk,hm,if_false,List.append_nil];repeat apply Exists.intro
      rfl
    ·have hjl:j=(acL7 s p1).length:=by omega
     subst hjl hQ2;simp only [go_sem,↓reduceIte,↓Aa,Int.ofNat_lt,hlt2,List.take_length];rw [←hsM];generalize hFe:Fy s t (p1,p2)=F at *;refine Ac (fun (g:List Pr×List Int) σ=>g.2.length≤s.acts.length∧CX (gdM s.S.length t.S.length) s.acts.length (goM s t (p1,p2)) (nxP s t (p1,p2)) l g.2.length g.1 (padX s.acts.length g.2)∧∃s5 c5 z7 a8 c8 a9 c9 a10 c10 a11 c11 a12 c12 a13 c13 a14 c14 a15 c15,mv1 0 6 5 σ=⟨aT .undef 98 [(6,.sl 5 s5 [] 0 0 g.1.length),(2,.ptr 0 1 [] 0 0 0),(3,.ptr 1 1 [] 0 0 0),(4,.ptr 2 1 [] 0 0 0),(5,.ptr 4 1 [] 0 0 0),(7,I outs.length),(8,.ptr 6 (a6+1) [] 0 0 0),(9,.ptr 7 (a7+1) [] 0 0 0),(55,I s.acts.length),(56,I g.2.length)],[⟨1,0,.own 2 [.agg [.lst (s.acts.map .str),.lst (s.S.map eSt)]]⟩,⟨1,0,.own 2 [.agg [.lst (t.acts.map .str),.lst (t.S.map eSt)]]⟩,⟨1,0,.own 2 [.agg [.nils,.nils]]⟩,⟨a3,c3,.gone⟩,⟨1,z4,.own 2 [.agg [cellv .nils 1 (s.acts.map .str),cellv .nils 2 (outs.map rowS)]]⟩,⟨s5,c5,.own 2 (g.1.map ePr)⟩,⟨a6+1,0,.own 2 [.agg [I p1,I p2]]⟩,⟨a7+1,z7,.own 2 [.agg [cellv .nils 1 (F.map I),cellv .nils 1 (g.2.map I)]]⟩,⟨a8,c8,.gone⟩,⟨a9,c9,.gone⟩,⟨a10,c10,.gone⟩,⟨a11,c11,.gone⟩,⟨a12,c12,.gone⟩,⟨a13,c13,.gone⟩,⟨a14,c14,.gone⟩,⟨a15,c15,.gone⟩],[]⟩) (fun g=>s.acts.length-g.2.length) ?_ (l,[]) ?_
     ·rintro ⟨l',X⟩ σ ⟨hXn,hX,s5,c5,z7,a8,c8,a9,c9,a10,c10,a11,c11,a12,c12,a13,c13,a14,c14,a15,c15,hσ⟩ N3 Q3 hQ3 hN3;simp only at hXn hX hσ;rw [Qz,hσ];by_cases hlt3:X.length<s.acts.length
      ·have n1:∀ {fr:Bool}{roots:List Nat}{b:Nat}{ss:List Nat}{σ:St}{k:AV→St→Prop},callT G BR [.agg [.lst (s.acts.map .str),.lst (s.S.map eSt)],I p1,I X.length] fr roots b ss σ k=k (I (nx1 s p1 X.length)) σ:=(Nq s p1 g2 X.length fun h=>by rw [(hs.st p1.toNat (by omega)).len];exact hlt3).rule;have n2:∀ {fr:Bool}{roots:List Nat}{b:Nat}{ss:List Nat}{σ:St}{k:AV→St→Prop},callT G BR [.agg [.lst (t.acts.map .str),.lst (t.S.map eSt)],I p2,I X.length] fr roots b ss σ k=k (I (nx1 t p2 X.length)) σ:=(Nq t p2 g4 X.length fun h=>by rw [(ht.st p2.toNat (by omega)).len,he];exact hlt3).rule;have hl':=F4 hX.nd (fun p hp=>Np (hX.good p hp));have hgo:goM s t (p1,p2) X.length↔0≤nx1 s p1 X.length∧0≤nx1 t p2 X.length:=Iff.rfl;have hnq:nxP s t (p1,p2) X.length=(nx1 s p1 X.length,nx1 t p2 X.length):=rfl;have hgd:=AdA hs ht he (p:=(p1,p2)) ⟨g1,g2,g3,g4⟩ hlt3;have hold:=hX.old hlt3;have hnew:=hX.new hlt3;rw [hnq] at hold hnew hgd;have hskip:=hX.skip;rw [←SH hlt3] at hskip;have w0:=Ab hlt3 (show s.acts.length≤1000000000 by omega);by_cases hq1:0≤nx1 s p1 X.length
       ·by_cases hq2:0≤nx1 t p2 X.length
        ·have hg:=hgo.2 ⟨hq1,hq2⟩;generalize nx1 s p1 X.length=q1 at *;generalize nx1 t p2 X.length=q2 at *;simp only [go_sem,↓reduceIte,↓Aa,Int.ofNat_lt,hlt3,n1,n2,hq1,hq2,AN Cp];refine place_ok (q:=(q1,q2)) rfl (by omega) hX.nd (fun hm=>?_) (fun hm=>?_)
         ·simp only [go_sem,↓reduceIte,↓Aa,w0];have hc:=hold hg hm;rw [J5 hlt3] at hc;refine ⟨by omega,hN3 (l',X++[((l'.idxOf (q1,q2):Nat):Int)]) _ (by simp only [List.length_append,List.length_singleton];omega) ⟨by simp only [List.length_append,List.length_singleton];omega,by simp only [List.length_append,List.length_singleton];exact hc,?_⟩⟩;simp only [go_sem,↓reduceIte,↓Aa];rw [Db rfl (by decide)];simp only [go_sem,↓reduceIte,↓Aa,List.map_append];repeat apply Exists.intro
          rfl
         ·simp only [go_sem,↓reduceIte,↓Aa,w0,ePr];have hc:=hnew hg (hgd hg) hm;rw [J5 hlt3] at hc;refine ⟨by omega,hN3 (l'++[(q1,q2)],X++[((l'.length:Nat):Int)]) _ (by simp only [List.length_append,List.length_singleton];omega) ⟨by simp only [List.length_append,List.length_singleton];omega,by simp only [List.length_append,List.length_singleton];exact hc,?_⟩⟩;simp only [go_sem,↓reduceIte,↓Aa];rw [Nw (r:=11) rfl rfl rfl (by decide) (by simp) (by decide)];simp only [go_sem,↓reduceIte,↓Aa,List.map_append,ePr,List.length_append,List.length_singleton];repeat apply Exists.intro
          rfl
        ·have hg:=fun g=>hq2 (hgo.1 g).2;have hc:=hskip hg;generalize nx1 s p1 X.length=q1 at *;generalize nx1 t p2 X.length=q2 at *;simp only [go_sem,↓reduceIte,↓Aa,Int.ofNat_lt,hlt3,n1,n2,hq1,hq2,AN Cp,w0];refine ⟨by omega,hN3 (l',X++[-1]) _ (by simp only [List.length_append,List.length_singleton];omega) ⟨by simp only [List.length_append,List.length_singleton];omega,by simp only [List.length_append,List.length_singleton];exact hc,?_⟩⟩;simp only [go_sem,↓reduceIte,↓Aa];rw [Db rfl (by decide)];simp only [go_sem,↓reduceIte,↓Aa,List.map_append];repeat apply Exists.intro
         rfl
       ·have hg:=fun g=>hq1 (hgo.1 g).1;have hc:=hskip hg;generalize nx1 s p1 X.length=q1 at *;generalize nx1 t p2 X.length=q2 at *;simp only [go_sem,↓reduceIte,↓Aa,Int.ofNat_lt,hlt3,n1,n2,hq1,AN Cp,w0];refine ⟨by omega,hN3 (l',X++[-1]) _ (by simp only [List.length_append,List.length_singleton];omega) ⟨by simp only [List.length_append,List.length_singleton];omega,by simp only [List.length_append,List.length_singleton];exact hc,?_⟩⟩;simp only [go_sem,↓reduceIte,↓Aa];rw [Db rfl (by decide)];simp only [go_sem,↓reduceIte,↓Aa,List.map_append];repeat apply Exists.intro
        rfl
      ·have hXl:X.length=s.acts.length:=by omega
       subst hQ3;simp only [go_sem,↓reduceIte,↓Aa,Int.ofNat_lt,hlt3,Ab hlt (show l.length≤1000000000 by omega)];refine ⟨by omega,hN (l',outs++[⟨F,X⟩]) _ (by simp only [List.length_append,List.length_singleton];omega) ⟨?_,?_⟩⟩
       ·simp only [List.length_append,List.length_singleton];refine hnext (a:=X.length) (fun b hb hab _=>by omega) ?_;rw [VY hXl] at hX;exact hX
       ·simp only [go_sem,↓reduceIte,↓Aa];rw [Db rfl (by decide)];simp only [go_sem,↓reduceIte,↓Aa,List.map_append,rowS];repeat apply Exists.intro
        rfl
     ·refine ⟨by simp,by simp only [List.length_nil,Wf];exact CX.start hI.nd hI.good,?_⟩;simp only [go_sem,↓reduceIte,↓Aa];rw [Db rfl (by decide)];simp only [go_sem,↓reduceIte,↓Aa];repeat apply Exists.intro
      rfl
   ·refine ⟨by omega,?_⟩;simp only [go_sem,↓reduceIte,↓Aa,List.take_zero,List.filter_nil,List.map_nil];repeat apply Exists.intro
    rfl
  ·subst hQ;simp only [go_sem,↓reduceIte,↓Aa,Int.ofNat_lt,hlt,TC];refine ⟨⟨s.acts,outs⟩,l,hI.fin (by omega) rfl (fun p hp=>?_),rfl⟩;exact (EN (hs.st p.1.toNat (by have:=hp.2.1;have:=hp.1;omega)).ris).filter _
 ·refine ⟨CI.start ⟨by omega,by omega,by omega,by omega⟩,?_⟩;simp only [go_sem,↓reduceIte,↓Aa];rw [Db rfl (by decide)];simp only [go_sem,↓reduceIte,↓Aa,ePr,List.map_nil,cellv_nil];repeat apply Exists.intro
  rfl
end
end Go.Mw
namespace Go.Mw
set_option maxRecDepth 100000
theorem cellv_ne {e:AV}{es:Nat}{xs:List AV}(h:xs≠[]):cellv e es xs = .own es xs:=by unfold cellv;rw [if_neg h]
theorem Abp {a b:List Int}{j:Nat}(h:j<b.length):uniL a (b.take (j+1))=NA (uniL a (b.take j)) b[j]!:=by
 unfold uniL;rw [List.take_succ_eq_append_getElem h,List.foldl_append,←getElem!_pos b j h];rfl
theorem Ad4 {l:List Int}{x:Int}:(NA l x).map I≠[]:=fun e=>by
 have hm:x∈NA l x:=putL_mem.2 (.inr rfl);have:NA l x = []:=by simpa using e
 rw [this] at hm;cases hm
theorem trimA_len {m:Nat}{s:Spc}(h:SpcK m s):(trimA s).1.S.length≤s.S.length:=by
 cases h0:(Cu s)[0]! with
 | true=>rw [L4 h0];exact h.s1
 | false =>
   rw [trimA_f h0];have:=OM (h.b h.sz) h.s1;simp only [An,List.length_map];exact this
theorem Yn {m q:Nat}{s t:Spc}(hs:SpcK m s)(ht:SpcK q t)(he:t.acts=s.acts)(hsn:s.S.length≤60)(htn:t.S.length≤60) :
 ∃W l,PS (BU (trimA s).1.S.length (trimA t).1.S.length) s.acts (fun p v=>v∈setsJ (trimA s).1 (trimA t).1 p) (nxP (trimA s).1 (trimA t).1) (goJ (trimA s).1 (trimA t).1) W l∧Fn G f_r07_Join [eSp s,eSp t] (eSp W):=by
 obtain ⟨hT,hTa⟩:=Hh hs;obtain ⟨hU,hUa⟩:=Hh ht;have hsn':=Nat.le_trans (trimA_len hs) hsn;have htn':=Nat.le_trans (trimA_len ht) htn;have hk8':=AH hs.acts;have r1:∀ {roots:List Nat}{b:Nat}{ss:List Nat}{σ:St}{k:AV→St→Prop},callT G BB [.agg [.lst (s.acts.map .str),.lst (s.S.map eSt)]] true roots b ss σ k=k (.tup [eSp (trimA s).1,.lst ((trimA s).2.map eN)]) σ:=Rp (hs.b hs.sz) hs.s1 hk8';have r2:∀ {roots:List Nat}{b:Nat}{ss:List Nat}{σ:St}{k:AV→St→Prop},callT G BB [.agg [.lst (t.acts.map .str),.lst (t.S.map eSt)]] true roots b ss σ k=k (.tup [eSp (trimA t).1,.lst ((trimA t).2.map eN)]) σ:=Rp (ht.b ht.sz) ht.s1 (by rw [he];exact hk8');have he':(trimA t).1.acts=(trimA s).1.acts:=by rw [hUa,hTa,he]
 rw [←hTa]
 suffices hh:FnP G f_r07_Join [eSp s,eSp t] (fun rs h=>∃W l,PS (BU (trimA s).1.S.length (trimA t).1.S.length) (trimA s).1.acts (fun p v=>v∈setsJ (trimA s).1 (trimA t).1 p) (nxP (trimA s).1 (trimA t).1) (goJ (trimA s).1 (trimA t).1) W l∧packV (treeBL 0 h rs)=eSp W) by
  obtain ⟨v,⟨W,l,hP,rfl⟩,hf⟩:=FnP.ex (P:=fun v=>∃W l,PS (BU (trimA s).1.S.length (trimA t).1.S.length) (trimA s).1.acts (fun p v=>v∈setsJ (trimA s).1 (trimA t).1 p) (nxP (trimA s).1 (trimA t).1) (goJ (trimA s).1 (trimA t).1) W l∧v=eSp W) hh;exact ⟨W,l,hP,hf⟩
 refine FnP.mk' Yd rfl rfl ?_;simp only [go_sem,↓reduceIte,↓Aa,P8,eSp,r1,r2];clear r1 r2;generalize (trimA s).2=l1;generalize (trimA t).2=l2;have hs0:=hs;have ht0:=ht;generalize hs'':s=s0 at *;generalize ht'':t=t0 at *;clear hs'' ht'';generalize (trimA s0).1=s at *;generalize (trimA t0).1=t at *;clear he;have hs:=hT.ok;have ht:=hU.ok;have he:=he';have hk8:=AH hs.acts;have hs1:=hs.s1;have ht1:=ht.s1;have hs2:=hs.s2;have ht2:=ht.s2;have hnm:s.S.length*t.S.length≤60*60:=Nat.mul_le_mul hsn' htn';refine ⟨by omega,?_⟩;refine Ac (fun (g:List Pr×List Stt) σ=>CI (BU s.S.length t.S.length) s.acts.length (setsJ s t) (nxP s t) (goJ s t) g.2.length g.1 g.2∧∃a3 c3 z4 s5 c5 a6 c6 a7 c7 a8 c8 a9 c9 a10 c10 a11 c11 a12 c12 a13 c13 a14 c14 a15 c15,mv1 0 6 5 σ=⟨aT .undef 107 [(6,.sl 5 s5 [] 0 0 g.1.length),(2,.ptr 0 1 [] 0 0 0),(3,.ptr 1 1 [] 0 0 0),(4,.ptr 2 1 [] 0 0 0),(5,.ptr 4 1 [] 0 0 0),(7,I g.2.length)],[⟨1,0,.own 2 [.agg [.lst (s.acts.map .str),.lst (s.S.map eSt)]]⟩,⟨1,0,.own 2 [.agg [.lst (t.acts.map .str),.lst (t.S.map eSt)]]⟩,⟨1,0,.own 2 [.agg [.nils,.nils]]⟩,⟨a3,c3,.gone⟩,⟨1,z4,.own 2 [.agg [cellv .nils 1 (s.acts.map .str),cellv .nils 2 (g.2.map rowS)]]⟩,⟨s5,c5,.own 2 (g.1.map ePr)⟩,⟨a6,c6,.gone⟩,⟨a7,c7,.gone⟩,⟨a8,c8,.gone⟩,⟨a9,c9,.gone⟩,⟨a10,c10,.gone⟩,⟨a11,c11,.gone⟩,⟨a12,c12,.gone⟩,⟨a13,c13,.gone⟩,⟨a14,c14,.gone⟩,⟨a15,c15,.gone⟩],[]⟩) (fun g=>4000-g.2.length) ?_ ([(0,0)],[]) ?_
 ·rintro ⟨l,outs⟩ σ ⟨hI,a3,c3,z4,s5,c5,a6,c6,a7,c7,a8,c8,a9,c9,a10,c10,a11,c11,a12,c12,a13,c13,a14,c14,a15,c15,hσ⟩ N Q hQ hN;simp only at hI hσ;rw [Qz,hσ];have hil:=hI.il;have hll:=F4 hI.nd hI.good;by_cases hlt:outs.length<l.length
  ·have hgp:=hI.good _ (AU hlt);have hnext:=fun {a:Nat}{l':List Pr}{X:List Int}=>hI.next (a:=a) (l:=l') (X:=X) hlt;have hsM:setsJ s t l[outs.length]! = uniL (acL7 s l[outs.length]!.1) (acL7 t l[outs.length]!.2):=rfl;generalize hpe:l[outs.length]! = p at *;obtain ⟨p1,p2⟩:=p;obtain ⟨g1,g2,g3,g4,g5⟩:=hgp;simp only at g1 g2 g3 g4 g5 hsM;have hal:=(EI hs g2).2;have hbl:=(EI ht g4).2;have c1:∀ {roots:List Nat}{b:Nat}{ss:List Nat}{σ:St}{k:AV→St→Prop},callT G A9 [.agg [.lst (s.acts.map .str),.lst (s.S.map eSt)],I p1] true roots b ss σ k=k (.lst ((acL7 s p1).map I)) σ:=(QL s p1 g2).rule;have c2:∀ {roots:List Nat}{b:Nat}{ss:List Nat}{σ:St}{k:AV→St→Prop},callT G A9 [.agg [.lst (t.acts.map .str),.lst (t.S.map eSt)],I p2] true roots b ss σ k=k (.lst ((acL7 t p2).map I)) σ:=(QL t p2 g4).rule;simp only [go_sem,↓reduceIte,↓Aa,Int.ofNat_lt,hlt,ePr,hpe,c1,c2];refine ⟨by omega,?_⟩;refine Ac (fun (j:Nat) σ=>j≤(acL7 t p2).length∧∃a7 c7 z8 a9 c9 a10 c10 a11 c11 a12 c12 a13 c13 a14 c14 a15 c15,σ=⟨aT .undef 107 [(2,.ptr 0 1 [] 0 0 0),(3,.ptr 1 1 [] 0 0 0),(4,.ptr 2 1 [] 0 0 0),(5,.ptr 4 1 [] 0 0 0),(6,.sl 5 s5 [] 0 0 l.length),(7,I outs.length),(8,.ptr 6 (a6+1) [] 0 0 0),(9,.ptr 8 (a8+1) [] 0 0 0),(50,.lst ((acL7 t p2).map I)),(51,I (acL7 t p2).length),(52,I j)],[⟨1,0,.own 2 [.agg [.lst (s.acts.map .str),.lst (s.S.map eSt)]]⟩,⟨1,0,.own 2 [.agg [.lst (t.acts.map .str),.lst (t.S.map eSt)]]⟩,⟨1,0,.own 2 [.agg [.nils,.nils]]⟩,⟨a3,c3,.gone⟩,⟨1,z4,.own 2 [.agg [cellv .nils 1 (s.acts.map .str),cellv .nils 2 (outs.map rowS)]]⟩,⟨s5,c5,.own 2 (l.map ePr)⟩,⟨a6+1,0,.own 2 [.agg [I p1,I p2]]⟩,⟨a7,c7,.gone⟩,⟨a8+1,z8,.own 2 [.agg [cellv .nils 1 ((uniL (acL7 s p1) ((acL7 t p2).take j)).map I),.nils]]⟩,⟨a9,c9,.gone⟩,⟨a10,c10,.gone⟩,⟨a11,c11,.gone⟩,⟨a12,c12,.gone⟩,⟨a13,c13,.gone⟩,⟨a14,c14,.gone⟩,⟨a15,c15,.gone⟩],[]⟩) (fun j=>(acL7 t p2).length-j) ?_ 0 ?_
   ·rintro j σ ⟨hj,a7,c7,z8,a9,c9,a10,c10,a11,c11,a12,c12,a13,c13,a14,c14,a15,c15,rfl⟩ N2 Q2 hQ2 hN2;by_cases hlt2:j<(acL7 t p2).length
    ·have hul:(uniL (acL7 s p1) ((acL7 t p2).take j)).length≤512:=Nat.le_trans Wy (by rw [List.length_take];omega);have htk:=Abp (a:=acL7 s p1) hlt2;generalize uniL (acL7 s p1) ((acL7 t p2).take j)=L at *;simp only [go_sem,↓reduceIte,↓Aa,Int.ofNat_lt,hlt2,Ab hlt2 (show (acL7 t p2).length≤1000000000 by omega)];generalize (acL7 t p2)[j]! = w at *;refine Ags (l:=L) rfl (by omega) (fun hpe hne=>?_) ?_
     ·have hLn:L.map I≠[]:=by simpa using hne
      rw [cellv_ne hLn];simp only [go_sem,↓reduceIte,↓Aa];refine hN2 (j+1) _ (by omega) ⟨by omega,?_⟩;rw [htk,hpe,cellv_ne hLn];simp only [go_sem,↓reduceIte,↓Aa,Ab hlt2 (show (acL7 t p2).length≤1000000000 by omega)];repeat apply Exists.intro
      rfl
     ·simp only [go_sem,↓reduceIte,↓Aa,Ab hlt2 (show (acL7 t p2).length≤1000000000 by omega)];refine hN2 (j+1) _ (by omega) ⟨by omega,?_⟩;rw [htk,cellv_ne Ad4];simp only [go_sem,↓reduceIte,↓Aa];repeat apply Exists.intro
      rfl
    ·have hjl:j=(acL7 t p2).length:=by omega
     subst hjl hQ2;simp only [go_sem,↓reduceIte,↓Aa,Int.ofNat_lt,hlt2,List.take_length];rw [←hsM];generalize hFe:setsJ s t (p1,p2)=F at *;refine Ac (fun (g:List Pr×List Int) σ=>g.2.length≤s.acts.length∧CX (BU s.S.length t.S.length) s.acts.length (goJ s t (p1,p2)) (nxP s t (p1,p2)) l g.2.length g.1 (padX s.acts.length g.2)∧∃s5 c5 z8 a9 c9 a10 c10 a11 c11 a12 c12 a13 c13 a14 c14 a15 c15,mv1 0 6 5 σ=⟨aT .undef 107 [(6,.sl 5 s5 [] 0 0 g.1.length),(2,.ptr 0 1 [] 0 0 0),(3,.ptr 1 1 [] 0 0 0),(4,.ptr 2 1 [] 0 0 0),(5,.ptr 4 1 [] 0 0 0),(7,I outs.length),(8,.ptr 6 (a6+1) [] 0 0 0),(9,.ptr 8 (a8+1) [] 0 0 0),(64,I s.acts.length),(65,I g.2.length)],[⟨1,0,.own 2 [.agg [.lst (s.acts.map .str),.lst (s.S.map eSt)]]⟩,⟨1,0,.own 2 [.agg [.lst (t.acts.map .str),.lst (t.S.map eSt)]]⟩,⟨1,0,.own 2 [.agg [.nils,.nils]]⟩,⟨a3,c3,.gone⟩,⟨1,z4,.own 2 [.agg [cellv .nils 1 (s.acts.map .str),cellv .nils 2 (outs.map rowS)]]⟩,⟨s5,c5,.own 2 (g.1.map ePr)⟩,⟨a6+1,0,.own 2 [.agg [I p1,I p2]]⟩,⟨a7,c7,.gone⟩,⟨a8+1,z8,.own 2 [.agg [cellv .nils 1 (F.map I),cellv .nils 1 (g.2.map I)]]⟩,⟨a9,c9,.gone⟩,⟨a10,c10,.gone⟩,⟨a11,c11,.gone⟩,⟨a12,c12,.gone⟩,⟨a13,c13,.gone⟩,⟨a14,c14,.gone⟩,⟨a15,c15,.gone⟩],[]⟩) (fun g=>s.acts.length-g.2.length) ?_ (l,[]) ?_
     ·rintro ⟨l',X⟩ σ ⟨hXn,hX,s5,c5,z8,a9,c9,a10,c10,a11,c11,a12,c12,a13,c13,a14,c14,a15,c15,hσ⟩ N3 Q3 hQ3 hN3;simp only at hXn hX hσ;rw [Qz,hσ];by_cases hlt3:X.length<s.acts.length
      ·have n1:∀ {fr:Bool}{roots:List Nat}{b:Nat}{ss:List Nat}{σ:St}{k:AV→St→Prop},callT G BR [.agg [.lst (s.acts.map .str),.lst (s.S.map eSt)],I p1,I X.length] fr roots b ss σ k=k (I (nx1 s p1 X.length)) σ:=(Nq s p1 g2 X.length fun h=>by rw [(hs.st p1.toNat (by omega)).len];exact hlt3).rule;have n2:∀ {fr:Bool}{roots:List Nat}{b:Nat}{ss:List Nat}{σ:St}{k:AV→St→Prop},callT G BR [.agg [.lst (t.acts.map .str),.lst (t.S.map eSt)],I p2,I X.length] fr roots b ss σ k=k (I (nx1 t p2 X.length)) σ:=(Nq t p2 g4 X.length fun h=>by rw [(ht.st p2.toNat (by omega)).len,he];exact hlt3).rule;have hl':=F4 hX.nd (hX.good);have hgo:goJ s t (p1,p2) X.length↔0≤nx1 s p1 X.length∨0≤nx1 t p2 X.length:=Iff.rfl;have hnq:nxP s t (p1,p2) X.length=(nx1 s p1 X.length,nx1 t p2 X.length):=rfl;have hgd:=AdB hs ht he (p:=(p1,p2)) ⟨g1,g2,g3,g4,g5⟩ hlt3;have hold:=hX.old hlt3;have hnew:=hX.new hlt3;rw [hnq] at hold hnew hgd;have hskip:=hX.skip;rw [←SH hlt3] at hskip;have w0:=Ab hlt3 (show s.acts.length≤1000000000 by omega);by_cases hq1:0≤nx1 s p1 X.length
       ·have hg:=hgo.2 (.inl hq1);generalize nx1 s p1 X.length=q1 at *;generalize nx1 t p2 X.length=q2 at *;simp only [go_sem,↓reduceIte,↓Aa,Int.ofNat_lt,hlt3,n1,n2,hq1,AN Cp];refine place_ok (q:=(q1,q2)) rfl (by omega) hX.nd (fun hm=>?_) (fun hm=>?_)
        ·simp only [go_sem,↓reduceIte,↓Aa,w0];have hc:=hold hg hm;rw [J5 hlt3] at hc;refine ⟨by omega,hN3 (l',X++[((l'.idxOf (q1,q2):Nat):Int)]) _ (by simp only [List.length_append,List.length_singleton];omega) ⟨by simp only [List.length_append,List.length_singleton];omega,by simp only [List.length_append,List.length_singleton];exact hc,?_⟩⟩;simp only [go_sem,↓reduceIte,↓Aa];rw [Db rfl (by decide)];simp only [go_sem,↓reduceIte,↓Aa,List.map_append];repeat apply Exists.intro
         rfl
        ·simp only [go_sem,↓reduceIte,↓Aa,w0,ePr];have hc:=hnew hg (hgd hg) hm;rw [J5 hlt3] at hc;refine ⟨by omega,hN3 (l'++[(q1,q2)],X++[((l'.length:Nat):Int)]) _ (by simp only [List.length_append,List.length_singleton];omega) ⟨by simp only [List.length_append,List.length_singleton];omega,by simp only [List.length_append,List.length_singleton];exact hc,?_⟩⟩;simp only [go_sem,↓reduceIte,↓Aa];rw [Nw (r:=11) rfl rfl rfl (by decide) (by simp) (by decide)];simp only [go_sem,↓reduceIte,↓Aa,List.map_append,ePr,List.length_append,List.length_singleton];repeat apply Exists.intro
         rfl
       ·by_cases hq2:0≤nx1 t p2 X.length
        ·have hg:=hgo.2 (.inr hq2);generalize nx1 s p1 X.length=q1 at *;generalize nx1 t p2 X.length=q2 at *;simp only [go_sem,↓reduceIte,↓Aa,Int.ofNat_lt,hlt3,n1,n2,hq1,hq2,AN Cp];refine place_ok (q:=(q1,q2)) rfl (by omega) hX.nd (fun hm=>?_) (fun hm=>?_)
         ·simp only [go_sem,↓reduceIte,↓Aa,w0];have hc:=hold hg hm;rw [J5 hlt3] at hc;refine ⟨by omega,hN3 (l',X++[((l'.idxOf (q1,q2):Nat):Int)]) _ (by simp only [List.length_append,List.length_singleton];omega) ⟨by simp only [List.length_append,List.length_singleton];omega,by simp only [List.length_append,List.length_singleton];exact hc,?_⟩⟩;simp only [go_sem,↓reduceIte,↓Aa];rw [Db rfl (by decide)];simp only [go_sem,↓reduceIte,↓Aa,List.map_append];repeat apply Exists.intro
          rfl
         ·simp only [go_sem,↓reduceIte,↓Aa,w0,ePr];have hc:=hnew hg (hgd hg) hm;rw [J5 hlt3] at hc;refine ⟨by omega,hN3 (l'++[(q1,q2)],X++[((l'.length:Nat):Int)]) _ (by simp only [List.length_append,List.length_singleton];omega) ⟨by simp only [List.length_append,List.length_singleton];omega,by simp only [List.length_append,List.length_singleton];exact hc,?_⟩⟩;simp only [go_sem,↓reduceIte,↓Aa];rw [Nw (r:=11) rfl rfl rfl (by decide) (by simp) (by decide)];simp only [go_sem,↓reduceIte,↓Aa,List.map_append,ePr,List.length_append,List.length_singleton];repeat apply Exists.intro
          rfl
        ·have hg:=fun g=>(hgo.1 g).elim hq1 hq2;have hc:=hskip hg;generalize nx1 s p1 X.length=q1 at *;generalize nx1 t p2 X.length=q2 at *;simp only [go_sem,↓reduceIte,↓Aa,Int.ofNat_lt,hlt3,n1,n2,hq1,hq2,AN Cp,w0];refine ⟨by omega,hN3 (l',X++[-1]) _ (by simp only [List.length_append,List.length_singleton];omega) ⟨by simp only [List.length_append,List.length_singleton];omega,by simp only [List.length_append,List.length_singleton];exact hc,?_⟩⟩;simp only [go_sem,↓reduceIte,↓Aa];rw [Db rfl (by decide)];simp only [go_sem,↓reduceIte,↓Aa,List.map_append];repeat apply Exists.intro
         rfl
      ·have hXl:X.length=s.acts.length:=by omega
       subst hQ3;simp only [go_sem,↓reduceIte,↓Aa,Int.ofNat_lt,hlt3,Ab hlt (show l.length≤1000000000 by omega)];refine ⟨by omega,hN (l',outs++[⟨F,X⟩]) _ (by simp only [List.length_append,List.length_singleton];omega) ⟨?_,?_⟩⟩
       ·simp only [List.length_append,List.length_singleton];refine hnext (a:=X.length) (fun b hb hab _=>by omega) ?_;rw [VY hXl] at hX;exact hX
       ·simp only [go_sem,↓reduceIte,↓Aa];rw [Db rfl (by decide)];simp only [go_sem,↓reduceIte,↓Aa,List.map_append,rowS];repeat apply Exists.intro
        rfl
     ·refine ⟨by simp,by simp only [List.length_nil,Wf];exact CX.start hI.nd hI.good,?_⟩;simp only [go_sem,↓reduceIte,↓Aa];rw [Db rfl (by decide)];simp only [go_sem,↓reduceIte,↓Aa];repeat apply Exists.intro
      rfl
   ·refine ⟨by omega,?_⟩;simp only [go_sem,↓reduceIte,↓Aa,List.take_zero,uniL,List.foldl_nil];repeat apply Exists.intro
    rfl
  ·subst hQ;simp only [go_sem,↓reduceIte,↓Aa,Int.ofNat_lt,hlt,TC];refine ⟨⟨s.acts,outs⟩,l,hI.fin (by omega) rfl (fun p hp=>?_),rfl⟩;exact QR (EI hs hp.2.1).1
 ·refine ⟨CI.start ⟨by omega,by omega,by omega,by omega,.inl (by omega)⟩,?_⟩;simp only [go_sem,↓reduceIte,↓Aa];rw [Db rfl (by decide)];simp only [go_sem,↓reduceIte,↓Aa,ePr,List.map_nil,cellv_nil];repeat apply Exists.intro
  rfl
theorem light07_big (s:Spc)(hs:SpBig s):∃v,FnT G CU [eSp s] (Bo v)∧(v=true→SpSz s∧s.S.length≤30):=by
 obtain ⟨v,hv,hP⟩:=Ab9 s hs 600 (by omega) (by omega);have hcall:∀ {fr:Bool}{roots:List Nat}{b:Nat}{ss:List Nat}{σ:St}{k:AV→St→Prop},callT G HP [.agg [.lst (s.acts.map .str),.lst (s.S.map eSt)],.int .i64 600] fr roots b ss σ k=k (Bo v) σ:=hv.rule;refine FnP.flatB (FnP.mk' Vn rfl rfl ?_);have hS:=hs.fs;simp only [go_sem,↓reduceIte,↓Aa,OS,eSp];by_cases h:(s.S.length:Int)≤30
 ·simp only [go_sem,↓reduceIte,↓Aa,h,hcall,Wr];exact fun hv=>⟨hP hv,by omega⟩
 ·simp only [go_sem,↓reduceIte,↓Aa,h,Wr]
theorem Y4 {m:Nat}(s:Spc)(hs:SpcK m s)(ht:(trimA s).1=s):FnT G DH [eSp s] (Bo true):=by
 have hr:∀ {roots:List Nat}{b:Nat}{ss:List Nat}{σ:St}{k:AV→St→Prop},callT G BB [.agg [.lst (s.acts.map .str),.lst (s.S.map eSt)]] true roots b ss σ k=k (.tup [eSp (trimA s).1,.lst ((trimA s).2.map eN)]) σ:=Rp (hs.b hs.sz) hs.s1 (AH hs.acts);rw [ht] at hr;refine FnP.mk' Tr rfl rfl ?_;simp only [go_sem,↓reduceIte,↓Aa,MB,eSp,hr,Agl hs.sz]
open Classical in
theorem Acn {q:Nat}(g w:Spc)(hg:De g)(hw:SpcK q w)(ha:g.acts=w.acts)(ht:(trimA g).1=g)(he:Ref (trimA g).1 w∧Ref (trimA w).1 g):FnT G A7 [eSp g,eSp w] (Bo true):=by
 have hz:=hg.sz;have hi:∀ {fr:Bool}{roots:List Nat}{b:Nat}{ss:List Nat}{σ:St}{k:AV→St→Prop},callT G DH [.agg [.lst (g.acts.map .str),.lst (g.S.map eSt)]] fr roots b ss σ k=k (Bo true) σ:=(Y4 g hg ht).rule;have h8:=AH hg.acts;have h8w:=AH hw.acts;have hs:∀ {fr:Bool}{roots:List Nat}{b:Nat}{ss:List Nat}{σ:St}{k:AV→St→Prop},callT G Aq [.lst (g.acts.map .str),.lst (w.acts.map .str)] fr roots b ss σ k=k (Bo true) σ:=by
  intros;rw [VS (by omega) (by omega),decide_eq_true ha]
 have hq:∀ {fr:Bool}{roots:List Nat}{b:Nat}{ss:List Nat}{σ:St}{k:AV→St→Prop},callT G Dv [.agg [.lst (g.acts.map .str),.lst (g.S.map eSt)],.agg [.lst (w.acts.map .str),.lst (w.S.map eSt)]] fr roots b ss σ k=k (Bo true) σ:=by
  intros;rw [Acr hg hw (by rw [ha]),decide_eq_true he]
 refine FnP.mk' Mt rfl rfl ?_;simp only [go_sem,↓reduceIte,↓Aa,Qd,eSp,AaP hz,hg,hi,hs,hq]
theorem Abt {fr:Bool}{roots:List Nat}{b:Nat}{ss:List Nat}{σ:St}{k:AV→St→Prop}:callT G Eu [.agg [.lst [],.lst []]] fr roots b ss σ k=k (Bo true) σ:=(AbB zSpc).rule
theorem Aci (w:Spc)(e:Int)(h:e≠0)(b:Bool):FnT G BC [eSp zSpc,I e,I e,eSp w,Bo b] (Bo true):=by
 have h1:(e != 0)=true:=by simpa using h
 refine FnP.mk' L8 rfl rfl ?_;simp only [go_sem,↓reduceIte,↓Aa,Kg,eSp,zSpc,List.map_nil,h1,Abt]
theorem Qg (w:Spc):FnT G BC [eSp zSpc,I 2,I 0,eSp w,Bo true] (Bo true):=by
 refine FnP.mk' L8 rfl rfl ?_;simp only [go_sem,↓reduceIte,↓Aa,Kg,eSp,zSpc,List.map_nil,Abt]
theorem SF (g w:Spc)(hf:FnT G A7 [eSp g,eSp w] (Bo true))(b:Bool):FnT G BC [eSp g,I 0,I 0,eSp w,Bo b] (Bo true):=by
 have hr:∀ {fr:Bool}{roots:List Nat}{b:Nat}{ss:List Nat}{σ:St}{k:AV→St→Prop},callT G A7 [.agg [.lst (g.acts.map .str),.lst (g.S.map eSt)],.agg [.lst (w.acts.map .str),.lst (w.S.map eSt)]] fr roots b ss σ k=k (Bo true) σ:=hf.rule;refine FnP.mk' L8 rfl rfl ?_;simp only [go_sem,↓reduceIte,↓Aa,Kg,eSp,hr]
theorem Wh {s t:Spc}:(fun (p:Pr) (v:Int)=>v∈setsJ s t p)=accJ s t:=by
 funext p v;exact propext JW
theorem fine_bi {q:Nat}{C W:Spc}{R:Nat→Nat→Prop}(h:Bi C W R)(hC:De C)(hW:SpcK q W):FnT G A7 [eSp (trimA C).1,eSp W] (Bo true):=by
 obtain ⟨hT,hTa⟩:=Hh hC;exact Acn _ W hT.ok hW (by rw [hTa,h.e]) (Jo hC) (h.both hC hW)
theorem Aak {s t C W:Spc}{l k:List Pr}(hs:De s)(ht:De t)(hsn:s.S.length≤30)(htn:t.S.length≤30)(hP:PS (gdM s.S.length t.S.length) s.acts (fun p v=>v∈Fy s t p) (nxP s t) (usedP fun p v=>v∈Fy s t p) C l)(hl:l.length≤500)
 (hW:PS (gdM s.S.length t.S.length) s.acts (fun p v=>v∈Fy s t p) (nxP s t) (goM s t) W k):FnT G A7 [eSp (trimA C).1,eSp W] (Bo true):=by
 have hB:AccOk (gdM s.S.length t.S.length) s.acts.length (fun p v=>v∈Fy s t p) (goM s t):=⟨fun p v hp hv=>(Ot hs ht).b p v hp ((HJ hp).1 hv),fun p v a hp hv ha=>(Ot hs ht).g p v a hp ((HJ hp).1 hv) ha⟩;have hk:=F4 hW.nd (fun p hp=>Np (hW.good p hp));have hnm:s.S.length*t.S.length≤30*30:=Nat.mul_le_mul hsn htn;exact fine_bi (hP.bi hW hB.used hB (fun _ _ _=>Iff.rfl)) (hP.ok hs.acts hB.used (by omega)) (hW.ok (q:=1000) hs.acts hB (by omega))
theorem Aas {s t X W:Spc}{k:List Pr}(hs:De s)(ht:De t)(he:t.acts=s.acts)(hsn:s.S.length≤30)(htn:t.S.length≤30)
 (hX:((trimA s).2 = []∧X=(trimA t).1)∨((trimA t).2 = []∧X=(trimA s).1) ∨
   ∃C l,PS (BU (trimA s).1.S.length (trimA t).1.S.length) s.acts (fun p v=>v∈setsJ (trimA s).1 (trimA t).1 p) (nxP (trimA s).1 (trimA t).1) (usedP fun p v=>v∈setsJ (trimA s).1 (trimA t).1 p) C l∧l.length≤500∧X=(trimA C).1)
 (hW:PS (BU (trimA s).1.S.length (trimA t).1.S.length) s.acts (fun p v=>v∈setsJ (trimA s).1 (trimA t).1 p) (nxP (trimA s).1 (trimA t).1) (goJ (trimA s).1 (trimA t).1) W k):FnT G A7 [eSp X,eSp W] (Bo true):=by
 obtain ⟨hT,hTa⟩:=Hh hs;obtain ⟨hU,hUa⟩:=Hh ht;have he':(trimA t).1.acts=(trimA s).1.acts:=by rw [hUa,hTa,he]
 have hn1:=Nat.le_trans (trimA_len hs) hsn;have hn2:=Nat.le_trans (trimA_len ht) htn;have hnm:(trimA s).1.S.length*(trimA t).1.S.length≤30*30:=Nat.mul_le_mul hn1 hn2;have hk:=F4 hW.nd hW.good;have hB:=Uk hT.ok hU.ok he';rw [hTa] at hB;rw [Wh] at hW;have hWok:SpcK 1000 W:=hW.ok hs.acts hB (by omega);rcases hX with ⟨e,rfl⟩|⟨e,rfl⟩|⟨C,l,hP,hl,rfl⟩
 ·have e1:(trimA s).1=Cf s.acts:=by rw [L4 ((Wl hs).1 e)]
  rw [e1] at hW hB;obtain ⟨R,hR⟩:=AcI hU.ok (by rw [hUa,he]) hW hB;have:=fine_bi hR hU.ok hWok;rw [Jo ht] at this;exact this
 ·have e1:(trimA t).1=Cf s.acts:=by rw [L4 ((Wl ht).1 e),he]
  rw [e1] at hW hB;obtain ⟨R,hR⟩:=Add hT.ok hTa hW hB;have:=fine_bi hR hT.ok hWok;rw [Jo hs] at this;exact this
 ·rw [Wh] at hP;exact fine_bi (hP.bi hW hB.used hB (fun _ _ _=>Iff.rfl)) (hP.ok hs.acts hB.used (by omega)) hWok
theorem Adw {d:Option Nat}{i:Ins}{t:Nat}{want:Bool}{os:List Rop}{b:Nat}{σ:St}{K:St→List (Option (List Nat))→Prop}(hv:σ.t[t]? = some (.bool want)) :
 Adh G (⟨d,i,some (t,want)⟩::os) b σ K=Adh G (⟨d,i,none⟩::os) b σ K:=by
 have hw:wantedO (some (t,want)) σ=some true:=by simp [wantedO,hv]
 have h0:wantedO none σ=some true:=(rfl);unfold Adh WpD;simp only [drwE,hw,h0]
theorem YJ:FnT G Dw [] (Bo true):=by
 refine FnP.mk' UH rfl rfl ?_;simp only [go_sem,↓reduceIte,↓Aa,NI,AN FH,AN Hx,AN Jg,Zu,Wv,ZE,Aae,V9,Wj]
 repeat (rw [Adw (by simp only [go_sem,↓reduceIte,↓Aa])];simp only [go_sem,↓reduceIte,↓Aa,AN FH,AN Hx,AN Jg,Zu,Wv,ZE,Aae,V9,Wj])
theorem Lq {roots:List Nat}{b:Nat}{ss:List Nat}{σ:St}{k:AV→St→Prop}{fr:Bool}:callT G Dw [] fr roots b ss σ k=k (Bo true) σ:=YJ.rule
theorem Sz (s t:Spc)(hs:SpBig s)(ht:SpBig t):FnT G f_w07_MeetMakes [eSp s,eSp t] (Bo true):=by
 obtain ⟨v,hv,hP⟩:=light07_big s hs;obtain ⟨u,hu,hQ⟩:=light07_big t ht;have l1:∀ {fr:Bool}{roots:List Nat}{b:Nat}{ss:List Nat}{σ:St}{k:AV→St→Prop},callT G CU [.agg [.lst (s.acts.map .str),.lst (s.S.map eSt)]] fr roots b ss σ k=k (Bo v) σ:=hv.rule;have l2:∀ {fr:Bool}{roots:List Nat}{b:Nat}{ss:List Nat}{σ:St}{k:AV→St→Prop},callT G CU [.agg [.lst (t.acts.map .str),.lst (t.S.map eSt)]] fr roots b ss σ k=k (Bo u) σ:=hu.rule;refine FnP.mk' Ok rfl rfl ?_;cases v with
 | false=>simp only [go_sem,↓reduceIte,↓Aa,CV,eSp,l1,Lq]
 | true =>
   cases u with
   | false=>simp only [go_sem,↓reduceIte,↓Aa,CV,eSp,l1,l2,Lq]
   | true =>
     obtain ⟨hsz,hsn⟩:=hP rfl;obtain ⟨htz,htn⟩:=hQ rfl;have b1:∀ {fr:Bool}{roots:List Nat}{b:Nat}{ss:List Nat}{σ:St}{k:AV→St→Prop},callT G Ft [.agg [.lst (s.acts.map .str),.lst (s.S.map eSt)],.agg [.lst (t.acts.map .str),.lst (t.S.map eSt)]] fr roots b ss σ k=k (I (fineE s t)) σ:=(Ac2 s t hsz htz).rule;obtain ⟨X,e,hm,hm0,hm1⟩:=mMeet_ok s t ⟨hsz,hs.fi⟩ ⟨htz,ht.fi⟩;obtain ⟨Y,f,hj,hj0,hj1⟩:=Aby s t ⟨hsz,hs.fi⟩ ⟨htz,ht.fi⟩;have m1:∀ {roots:List Nat}{b:Nat}{ss:List Nat}{σ:St}{k:AV→St→Prop},callT G Cm [.agg [.lst (s.acts.map .str),.lst (s.S.map eSt)],.agg [.lst (t.acts.map .str),.lst (t.S.map eSt)]] true roots b ss σ k=k (.tup [eSp X,I e]) σ:=hm.rule;have j1:∀ {roots:List Nat}{b:Nat}{ss:List Nat}{σ:St}{k:AV→St→Prop},callT G B0 [.agg [.lst (s.acts.map .str),.lst (s.S.map eSt)],.agg [.lst (t.acts.map .str),.lst (t.S.map eSt)]] true roots b ss σ k=k (.tup [eSp Y,I f]) σ:=hj.rule;have hnm:s.S.length*t.S.length≤30*30:=Nat.mul_le_mul hsn htn;have w1:IntKind.i64.wrap ((s.S.length:Int)*(t.S.length:Int))=((s.S.length*t.S.length:Nat):Int):=by rw [←Int.natCast_mul,Ak]<;>omega
     have w2:IntKind.i64.wrap (((s.S.length*t.S.length:Nat):Int)+(s.S.length:Int))=((s.S.length*t.S.length+s.S.length:Nat):Int):=by rw [Ak]<;>omega
     have w3:IntKind.i64.wrap (((s.S.length*t.S.length+s.S.length:Nat):Int)+(t.S.length:Int))=((s.S.length*t.S.length+s.S.length+t.S.length:Nat):Int):=by rw [Ak]<;>omega
     by_cases h0:fineE s t=0
     ·obtain ⟨q1,q2,q3⟩:=Mn h0;obtain ⟨W,k,hW,hWf⟩:=WJ q1 q2 q3 (by omega) (by omega);obtain ⟨V,k2,hV,hVf⟩:=Yn q1 q2 q3 (by omega) (by omega);have rM:∀ {roots:List Nat}{b:Nat}{ss:List Nat}{σ:St}{k:AV→St→Prop},callT G f_r07_Meet [.agg [.lst (s.acts.map .str),.lst (s.S.map eSt)],.agg [.lst (t.acts.map .str),.lst (t.S.map eSt)]] true roots b ss σ k=k (eSp W) σ:=hWf.rule;have rJ:∀ {roots:List Nat}{b:Nat}{ss:List Nat}{σ:St}{k:AV→St→Prop},callT G f_r07_Join [.agg [.lst (s.acts.map .str),.lst (s.S.map eSt)],.agg [.lst (t.acts.map .str),.lst (t.S.map eSt)]] true roots b ss σ k=k (eSp V) σ:=hVf.rule;have tM:FnT G BC [eSp X,I e,I 0,eSp W,Bo (decide ((500:Int)<((s.S.length*t.S.length+s.S.length+t.S.length:Nat):Int)))] (Bo true):=by
       rcases hm1 h0 with ⟨rfl,rfl,hL⟩|⟨rfl,C,l,hC,hl,rfl⟩
       ·rw [decide_eq_true (by unfold P6 at hL;omega)];exact Qg W
       ·exact SF _ W (Aak q1 q2 hsn htn hC hl hW) _
      have tJ:FnT G BC [eSp Y,I f,I 0,eSp V,Bo (decide ((500:Int)<((s.S.length*t.S.length+s.S.length+t.S.length:Nat):Int)))] (Bo true):=by
       rcases hj1 h0 with ⟨rfl,rfl,hL⟩|⟨rfl,hX⟩
       ·have n1:=trimA_len q1;have n2:=trimA_len q2;have n3:=Nat.mul_le_mul n1 n2;rw [decide_eq_true (by unfold P6 at hL;omega)];exact Qg V
       ·exact SF _ V (Aas q1 q2 q3 hsn htn hX hV) _
      have t1:∀ {fr:Bool}{roots:List Nat}{b:Nat}{ss:List Nat}{σ:St}{k:AV→St→Prop},callT G BC [.agg [.lst (X.acts.map .str),.lst (X.S.map eSt)],I e,I 0,.agg [.lst (W.acts.map .str),.lst (W.S.map eSt)],Bo (decide ((500:Int)<((s.S.length*t.S.length+s.S.length+t.S.length:Nat):Int)))] fr roots b ss σ k=k (Bo true) σ:=tM.rule;have t2:∀ {fr:Bool}{roots:List Nat}{b:Nat}{ss:List Nat}{σ:St}{k:AV→St→Prop},callT G BC [.agg [.lst (Y.acts.map .str),.lst (Y.S.map eSt)],I f,I 0,.agg [.lst (V.acts.map .str),.lst (V.S.map eSt)],Bo (decide ((500:Int)<((s.S.length*t.S.length+s.S.length+t.S.length:Nat):Int)))] fr roots b ss σ k=k (Bo true) σ:=tJ.rule;simp only [go_sem,↓reduceIte,↓Aa,CV,eSp,l1,l2,Lq,b1,h0,rM,rJ,m1,j1,spcCopy_r hsz,spcCopy_r htz,w1,w2,w3,AN LE,AN Lg,AN H1,AN HB,AN HA,t1,t2]
     ·obtain ⟨rfl,rfl⟩:=hm0 h0;obtain ⟨rfl,rfl⟩:=hj0 h0;have h0':(fineE s t==0)=false:=by rw [beq_eq_false_iff_ne];exact h0
      have t1:∀ {B:Bool}{fr:Bool}{roots:List Nat}{b:Nat}{ss:List Nat}{σ:St}{k:AV→St→Prop},callT G BC [.agg [.lst [],.lst []],I (fineE s t),I (fineE s t),.agg [.lst [],.lst []],Bo B] fr roots b ss σ k=k (Bo true) σ:=(Aci zSpc _ h0 _).rule;simp only [go_sem,↓reduceIte,↓Aa,CV,eSp,l1,l2,Lq,b1,h0',m1,j1,spcCopy_r hsz,spcCopy_r htz,w1,w2,w3,AN H1,AN HB,AN HA,zSpc,List.map_nil,t1]
end Go.Mw
