/- The reference's Meet. -/
import Derived.Test.YtondemeliogjmaaGreatM27
set_option linter.unusedVariables false
set_option linter.unusedSimpArgs false
namespace Go.Mw
set_option maxRecDepth 100000
def padX (n:Nat)(X:List Int):List Int:=X++List.replicate (n-X.length) (-1)
theorem UQ {l:List Stt}:(l.map rowS).map frz=l.map eSt:=by rw [List.map_map];congr 1;funext x;exact frz_rowS x
theorem Lh {n:Nat}{X:List Int}{k:Int}(h:X.length<n):(padX n X).set X.length k=padX n (X++[k]):=by
 unfold padX;obtain ⟨d,hd⟩:∃d,n-X.length=d+1:=⟨n-X.length-1,by omega⟩;rw [List.set_append_right _ _ (Nat.le_refl _),Nat.sub_self,hd,List.replicate_succ,List.set_cons_zero,List.length_append,List.length_singleton,show n-(X.length+1)=d by omega,List.append_assoc];rfl
theorem Vd {n:Nat}{X:List Int}(h:X.length<n):padX n (X++[-1])=padX n X:=by
 unfold padX;obtain ⟨d,hd⟩:∃d,n-X.length=d+1:=⟨n-X.length-1,by omega⟩;rw [hd,List.replicate_succ,List.length_append,List.length_singleton,show n-(X.length+1)=d by omega,List.append_assoc];rfl
theorem X7 {n:Nat}{X:List Int}(h:X.length=n):padX n X=X:=by unfold padX;rw [h,Nat.sub_self];simp
theorem XD {n:Nat}:padX n []=List.replicate n (-1):=by unfold padX;simp
section
variable {m q:Nat}{s t:Spc}(hs:SpcK m s) (ht:SpcK q t) (he:t.acts=s.acts)
include hs ht he
theorem ZZ (hnm:s.S.length*t.S.length+s.S.length+t.S.length≤12000):∃W l,PS (gdM s.S.length t.S.length) s.acts (fun p v=>v∈J1 s t p) (nxP s t) (goM s t) W l∧Fn G f_r07_Meet [eSp s,eSp t] (eSp W):=by
 suffices hh:FnP G f_r07_Meet [eSp s,eSp t] (fun rs h=>∃W l,PS (gdM s.S.length t.S.length) s.acts (fun p v=>v∈J1 s t p) (nxP s t) (goM s t) W l∧packV (treeBL 0 h rs)=eSp W) by
  obtain ⟨v,⟨W,l,hP,rfl⟩,hf⟩:=FnP.ex (P:=fun v=>∃W l,PS (gdM s.S.length t.S.length) s.acts (fun p v=>v∈J1 s t p) (nxP s t) (goM s t) W l∧v=eSp W) hh;exact ⟨W,l,hP,hf⟩
 have hk8:=Au hs.acts;have hs1:=hs.s1;have ht1:=ht.s1;have hs2:=hs.s2;have ht2:=ht.s2;refine FnP.mk' ZU rfl rfl ?_;simp only [go_sem,↓reduceIte,↓Aa,Rv,eSp];refine ⟨by omega,?_⟩;refine Ac (fun (g:List Pr×List Stt) σ=>CI (gdM s.S.length t.S.length) s.acts.length (J1 s t) (nxP s t) (goM s t) g.2.length g.1 g.2∧∃a3 c3 z4 s5 c5 a6 c6 a7 c7 a8 c8 a9 c9 a10 c10 a11 c11 a12 c12 a13 c13 a14 c14 a15 c15,mv1 0 6 5 σ=⟨aT .undef 98 [(6,.sl 5 s5 [] 0 0 g.1.length),(2,.ptr 0 1 [] 0 0 0),(3,.ptr 1 1 [] 0 0 0),(4,.ptr 2 1 [] 0 0 0),(5,.ptr 4 1 [] 0 0 0),(7,I g.2.length)],[⟨1,0,.own 2 [.agg [.lst (s.acts.map .str),.lst (s.S.map eSt)]]⟩,⟨1,0,.own 2 [.agg [.lst (t.acts.map .str),.lst (t.S.map eSt)]]⟩,⟨1,0,.own 2 [.agg [.nils,.nils]]⟩,⟨a3,c3,.gone⟩,⟨1,z4,.own 2 [.agg [cellv .nils 1 (s.acts.map .str),cellv .nils 2 (g.2.map rowS)]]⟩,⟨s5,c5,.own 2 (g.1.map ePr)⟩,⟨a6,c6,.gone⟩,⟨a7,c7,.gone⟩,⟨a8,c8,.gone⟩,⟨a9,c9,.gone⟩,⟨a10,c10,.gone⟩,⟨a11,c11,.gone⟩,⟨a12,c12,.gone⟩,⟨a13,c13,.gone⟩,⟨a14,c14,.gone⟩,⟨a15,c15,.gone⟩],[]⟩) (fun g=>13000-g.2.length) ?_ ([(0,0)],[]) ?_
 ·rintro ⟨l,outs⟩ σ ⟨hI,a3,c3,z4,s5,c5,a6,c6,a7,c7,a8,c8,a9,c9,a10,c10,a11,c11,a12,c12,a13,c13,a14,c14,a15,c15,hσ⟩ N Q hQ hN;simp only at hI hσ;rw [Ru,hσ];have hil:=hI.il;have hll:=Ki hI.nd (fun p hp=>XY (hI.good p hp));by_cases hlt:outs.length<l.length
  ·have hgp:=hI.good _ (AI hlt);have hnext:=fun {a:Nat}{l':List Pr}{X:List Int}=>hI.next (a:=a) (l:=l') (X:=X) hlt;have hsM:J1 s t l[outs.length]! = (acL7 s l[outs.length]!.1).filter fun v=>decide (v∈acL7 t l[outs.length]!.2):=by
    obtain ⟨h1,h2,h3,h4⟩:=hgp;unfold J1 acL7;rw [if_neg (by omega),if_neg (by omega)]
   generalize hpe:l[outs.length]! = p at *;obtain ⟨p1,p2⟩:=p;obtain ⟨g1,g2,g3,g4⟩:=hgp;simp only at g1 g2 g3 g4 hsM;have c1:∀ {roots:List Nat}{b:Nat}{ss:List Nat}{σ:St}{k:AV→St→Prop},callT G Bu [.agg [.lst (s.acts.map .str),.lst (s.S.map eSt)],I p1] true roots b ss σ k=k (.lst ((acL7 s p1).map I)) σ:=(SA s p1 g2).rule;have c2:∀ {roots:List Nat}{b:Nat}{ss:List Nat}{σ:St}{k:AV→St→Prop},callT G Bu [.agg [.lst (t.acts.map .str),.lst (t.S.map eSt)],I p2] true roots b ss σ k=k (.lst ((acL7 t p2).map I)) σ:=(SA t p2 g4).rule;simp only [go_sem,↓reduceIte,↓Aa,Int.ofNat_lt,hlt,ePr,hpe,c1];refine Ac (fun (j:Nat) σ=>j≤(acL7 s p1).length∧∃z7 a8 c8 a9 c9 a10 c10 a11 c11 a12 c12 a13 c13 a14 c14 a15 c15,σ=⟨aT .undef 98 [(2,.ptr 0 1 [] 0 0 0),(3,.ptr 1 1 [] 0 0 0),(4,.ptr 2 1 [] 0 0 0),(5,.ptr 4 1 [] 0 0 0),(6,.sl 5 s5 [] 0 0 l.length),(7,I outs.length),(8,.ptr 6 (a6+1) [] 0 0 0),(9,.ptr 7 (a7+1) [] 0 0 0),(34,.lst ((acL7 s p1).map I)),(35,I (acL7 s p1).length),(36,I j)],[⟨1,0,.own 2 [.agg [.lst (s.acts.map .str),.lst (s.S.map eSt)]]⟩,⟨1,0,.own 2 [.agg [.lst (t.acts.map .str),.lst (t.S.map eSt)]]⟩,⟨1,0,.own 2 [.agg [.nils,.nils]]⟩,⟨a3,c3,.gone⟩,⟨1,z4,.own 2 [.agg [cellv .nils 1 (s.acts.map .str),cellv .nils 2 (outs.map rowS)]]⟩,⟨s5,c5,.own 2 (l.map ePr)⟩,⟨a6+1,0,.own 2 [.agg [I p1,I p2]]⟩,⟨a7+1,z7,.own 2 [.agg [cellv .nils 1 ((((acL7 s p1).take j).filter fun v=>decide (v∈acL7 t p2)).map I),.nils]]⟩,⟨a8,c8,.gone⟩,⟨a9,c9,.gone⟩,⟨a10,c10,.gone⟩,⟨a11,c11,.gone⟩,⟨a12,c12,.gone⟩,⟨a13,c13,.gone⟩,⟨a14,c14,.gone⟩,⟨a15,c15,.gone⟩],[]⟩) (fun j=>(acL7 s p1).length-j) ?_ 0 ?_
   ·rintro j σ ⟨hj,z7,a8,c8,a9,c9,a10,c10,a11,c11,a12,c12,a13,c13,a14,c14,a15,c15,rfl⟩ N2 Q2 hQ2 hN2;have hal:=(FM hs g2).2;have hbl:=(FM ht g4).2;by_cases hlt2:j<(acL7 s p1).length
    ·have hfl:(((acL7 s p1).take j).filter fun v=>decide (v∈acL7 t p2)).length≤j:=Nat.le_trans (List.length_filter_le _ _) (by rw [List.length_take];omega);have htk:((acL7 s p1).take (j+1)).filter (fun v=>decide (v∈acL7 t p2))=((acL7 s p1).take j).filter (fun v=>decide (v∈acL7 t p2))++if (acL7 s p1)[j]!∈acL7 t p2 then [(acL7 s p1)[j]!] else []:=by
      rw [List.take_succ_eq_append_getElem hlt2,List.filter_append,←getElem!_pos (acL7 s p1) j hlt2];generalize (acL7 s p1)[j]! = w;by_cases hm:w∈acL7 t p2<;>simp [hm]
     simp only [go_sem,↓reduceIte,↓Aa,Int.ofNat_lt,hlt2,Ab hlt2 (by omega),c2,Aip (show (acL7 t p2).length≤1048576 by omega)];refine ⟨fun hm=>⟨by omega,hN2 (j+1) _ (by omega) ⟨by omega,?_⟩⟩,fun hm=>hN2 (j+1) _ (by omega) ⟨by omega,?_⟩⟩
     ·simp only [go_sem,↓reduceIte,↓Aa,htk,hm,if_true,List.map_append];repeat apply Exists.intro
      rfl
     ·simp only [go_sem,↓reduceIte,↓Aa,htk,hm,if_false,List.append_nil];repeat apply Exists.intro
      rfl
    ·have hjl:j=(acL7 s p1).length:=by omega
     subst hjl hQ2;simp only [go_sem,↓reduceIte,↓Aa,Int.ofNat_lt,hlt2,List.take_length];rw [←hsM];generalize hFe:J1 s t (p1,p2)=F at *;refine Ac (fun (g:List Pr×List Int) σ=>g.2.length≤s.acts.length∧CX (gdM s.S.length t.S.length) s.acts.length (goM s t (p1,p2)) (nxP s t (p1,p2)) l g.2.length g.1 (padX s.acts.length g.2)∧∃s5 c5 z7 a8 c8 a9 c9 a10 c10 a11 c11 a12 c12 a13 c13 a14 c14 a15 c15,mv1 0 6 5 σ=⟨aT .undef 98 [(6,.sl 5 s5 [] 0 0 g.1.length),(2,.ptr 0 1 [] 0 0 0),(3,.ptr 1 1 [] 0 0 0),(4,.ptr 2 1 [] 0 0 0),(5,.ptr 4 1 [] 0 0 0),(7,I outs.length),(8,.ptr 6 (a6+1) [] 0 0 0),(9,.ptr 7 (a7+1) [] 0 0 0),(55,I s.acts.length),(56,I g.2.length)],[⟨1,0,.own 2 [.agg [.lst (s.acts.map .str),.lst (s.S.map eSt)]]⟩,⟨1,0,.own 2 [.agg [.lst (t.acts.map .str),.lst (t.S.map eSt)]]⟩,⟨1,0,.own 2 [.agg [.nils,.nils]]⟩,⟨a3,c3,.gone⟩,⟨1,z4,.own 2 [.agg [cellv .nils 1 (s.acts.map .str),cellv .nils 2 (outs.map rowS)]]⟩,⟨s5,c5,.own 2 (g.1.map ePr)⟩,⟨a6+1,0,.own 2 [.agg [I p1,I p2]]⟩,⟨a7+1,z7,.own 2 [.agg [cellv .nils 1 (F.map I),cellv .nils 1 (g.2.map I)]]⟩,⟨a8,c8,.gone⟩,⟨a9,c9,.gone⟩,⟨a10,c10,.gone⟩,⟨a11,c11,.gone⟩,⟨a12,c12,.gone⟩,⟨a13,c13,.gone⟩,⟨a14,c14,.gone⟩,⟨a15,c15,.gone⟩],[]⟩) (fun g=>s.acts.length-g.2.length) ?_ (l,[]) ?_
     ·rintro ⟨l',X⟩ σ ⟨hXn,hX,s5,c5,z7,a8,c8,a9,c9,a10,c10,a11,c11,a12,c12,a13,c13,a14,c14,a15,c15,hσ⟩ N3 Q3 hQ3 hN3;simp only at hXn hX hσ;rw [Ru,hσ];by_cases hlt3:X.length<s.acts.length
      ·have n1:∀ {fr:Bool}{roots:List Nat}{b:Nat}{ss:List Nat}{σ:St}{k:AV→St→Prop},callT G Ce [.agg [.lst (s.acts.map .str),.lst (s.S.map eSt)],I p1,I X.length] fr roots b ss σ k=k (I (nx1 s p1 X.length)) σ:=(OD s p1 g2 X.length fun h=>by rw [(hs.st p1.toNat (by omega)).len];exact hlt3).rule;have n2:∀ {fr:Bool}{roots:List Nat}{b:Nat}{ss:List Nat}{σ:St}{k:AV→St→Prop},callT G Ce [.agg [.lst (t.acts.map .str),.lst (t.S.map eSt)],I p2,I X.length] fr roots b ss σ k=k (I (nx1 t p2 X.length)) σ:=(OD t p2 g4 X.length fun h=>by rw [(ht.st p2.toNat (by omega)).len,he];exact hlt3).rule;have hl':=Ki hX.nd (fun p hp=>XY (hX.good p hp));have hgo:goM s t (p1,p2) X.length↔0≤nx1 s p1 X.length∧0≤nx1 t p2 X.length:=Iff.rfl;have hnq:nxP s t (p1,p2) X.length=(nx1 s p1 X.length,nx1 t p2 X.length):=rfl;have hgd:=AfF hs ht he (p:=(p1,p2)) ⟨g1,g2,g3,g4⟩ hlt3;have hold:=hX.old hlt3;have hnew:=hX.new hlt3;rw [hnq] at hold hnew hgd;have hskip:=hX.skip;rw [←Vd hlt3] at hskip;have w0:=Ab hlt3 (show s.acts.length≤1000000000 by omega);by_cases hq1:0≤nx1 s p1 X.length
       ·by_cases hq2:0≤nx1 t p2 X.length
        ·have hg:=hgo.2 ⟨hq1,hq2⟩;generalize nx1 s p1 X.length=q1 at *;generalize nx1 t p2 X.length=q2 at *;simp only [go_sem,↓reduceIte,↓Aa,Int.ofNat_lt,hlt3,n1,n2,hq1,hq2,AJ C1];refine place_ok (q:=(q1,q2)) rfl (by omega) hX.nd (fun hm=>?_) (fun hm=>?_)
         ·simp only [go_sem,↓reduceIte,↓Aa,w0];have hc:=hold hg hm;rw [Lh hlt3] at hc;refine ⟨by omega,hN3 (l',X++[((l'.idxOf (q1,q2):Nat):Int)]) _ (by simp only [List.length_append,List.length_singleton];omega) ⟨by simp only [List.length_append,List.length_singleton];omega,by simp only [List.length_append,List.length_singleton];exact hc,?_⟩⟩;simp only [go_sem,↓reduceIte,↓Aa];rw [DH rfl (by decide)];simp only [go_sem,↓reduceIte,↓Aa,List.map_append];repeat apply Exists.intro
          rfl
         ·simp only [go_sem,↓reduceIte,↓Aa,w0,ePr];have hc:=hnew hg (hgd hg) hm;rw [Lh hlt3] at hc;refine ⟨by omega,hN3 (l'++[(q1,q2)],X++[((l'.length:Nat):Int)]) _ (by simp only [List.length_append,List.length_singleton];omega) ⟨by simp only [List.length_append,List.length_singleton];omega,by simp only [List.length_append,List.length_singleton];exact hc,?_⟩⟩;simp only [go_sem,↓reduceIte,↓Aa];rw [OH (r:=11) rfl rfl rfl (by decide) (by simp) (by decide)];simp only [go_sem,↓reduceIte,↓Aa,List.map_append,ePr,List.length_append,List.length_singleton];repeat apply Exists.intro
          rfl
        ·have hg:=fun g=>hq2 (hgo.1 g).2;have hc:=hskip hg;generalize nx1 s p1 X.length=q1 at *;generalize nx1 t p2 X.length=q2 at *;simp only [go_sem,↓reduceIte,↓Aa,Int.ofNat_lt,hlt3,n1,n2,hq1,hq2,AJ C1,w0];refine ⟨by omega,hN3 (l',X++[-1]) _ (by simp only [List.length_append,List.length_singleton];omega) ⟨by simp only [List.length_append,List.length_singleton];omega,by simp only [List.length_append,List.length_singleton];exact hc,?_⟩⟩;simp only [go_sem,↓reduceIte,↓Aa];rw [DH rfl (by decide)];simp only [go_sem,↓reduceIte,↓Aa,List.map_append];repeat apply Exists.intro
         rfl
       ·have hg:=fun g=>hq1 (hgo.1 g).1;have hc:=hskip hg;generalize nx1 s p1 X.length=q1 at *;generalize nx1 t p2 X.length=q2 at *;simp only [go_sem,↓reduceIte,↓Aa,Int.ofNat_lt,hlt3,n1,n2,hq1,AJ C1,w0];refine ⟨by omega,hN3 (l',X++[-1]) _ (by simp only [List.length_append,List.length_singleton];omega) ⟨by simp only [List.length_append,List.length_singleton];omega,by simp only [List.length_append,List.length_singleton];exact hc,?_⟩⟩;simp only [go_sem,↓reduceIte,↓Aa];rw [DH rfl (by decide)];simp only [go_sem,↓reduceIte,↓Aa,List.map_append];repeat apply Exists.intro
        rfl
      ·have hXl:X.length=s.acts.length:=by omega
       subst hQ3;simp only [go_sem,↓reduceIte,↓Aa,Int.ofNat_lt,hlt3,Ab hlt (show l.length≤1000000000 by omega)];refine ⟨by omega,hN (l',outs++[⟨F,X⟩]) _ (by simp only [List.length_append,List.length_singleton];omega) ⟨?_,?_⟩⟩
       ·simp only [List.length_append,List.length_singleton];refine hnext (a:=X.length) (fun b hb hab _=>by omega) ?_;rw [X7 hXl] at hX;exact hX
       ·simp only [go_sem,↓reduceIte,↓Aa];rw [DH rfl (by decide)];simp only [go_sem,↓reduceIte,↓Aa,List.map_append,rowS];repeat apply Exists.intro
        rfl
     ·refine ⟨by simp,by simp only [List.length_nil,XD];exact CX.start hI.nd hI.good,?_⟩;simp only [go_sem,↓reduceIte,↓Aa];rw [DH rfl (by decide)];simp only [go_sem,↓reduceIte,↓Aa];repeat apply Exists.intro
      rfl
   ·refine ⟨by omega,?_⟩;simp only [go_sem,↓reduceIte,↓Aa,List.take_zero,List.filter_nil,List.map_nil];repeat apply Exists.intro
    rfl
  ·subst hQ;simp only [go_sem,↓reduceIte,↓Aa,Int.ofNat_lt,hlt,UQ];refine ⟨⟨s.acts,outs⟩,l,hI.fin (by omega) rfl (fun p hp=>?_),rfl⟩;exact (FZ (hs.st p.1.toNat (by have:=hp.2.1;have:=hp.1;omega)).ris).filter _
 ·refine ⟨CI.start ⟨by omega,by omega,by omega,by omega⟩,?_⟩;simp only [go_sem,↓reduceIte,↓Aa];rw [DH rfl (by decide)];simp only [go_sem,↓reduceIte,↓Aa,ePr,List.map_nil,cellv_nil];repeat apply Exists.intro
  rfl
end
end Go.Mw
namespace Go.Mw
set_option maxRecDepth 100000
theorem cellv_ne {e:AV}{es:Nat}{xs:List AV}(h:xs≠[]):cellv e es xs = .own es xs:=by unfold cellv;rw [if_neg h]
theorem AbK {a b:List Int}{j:Nat}(h:j<b.length):uniL a (b.take (j+1))=OC (uniL a (b.take j)) b[j]!:=by
 unfold uniL;rw [List.take_succ_eq_append_getElem h,List.foldl_append,←getElem!_pos b j h];rfl
theorem Agy {l:List Int}{x:Int}:(OC l x).map I≠[]:=fun e=>by
 have hm:x∈OC l x:=putL_mem.2 (.inr rfl);have:OC l x = []:=by simpa using e
 rw [this] at hm;cases hm
theorem trimA_len {m:Nat}{s:Spc}(h:SpcK m s):(trimA s).1.S.length≤s.S.length:=by
 cases h0:(Cn s)[0]! with
 | true=>rw [Kl h0];exact h.s1
 | false =>
   rw [trimA_f h0];have:=MY (h.b h.sz) h.s1;simp only [Ao,List.length_map];exact this
theorem YK {m q:Nat}{s t:Spc}(hs:SpcK m s)(ht:SpcK q t)(he:t.acts=s.acts)(hnm:(trimA s).1.S.length*(trimA t).1.S.length+(trimA s).1.S.length+(trimA t).1.S.length≤12000) :
 ∃W l,PS (Cd (trimA s).1.S.length (trimA t).1.S.length) s.acts (fun p v=>v∈setsJ (trimA s).1 (trimA t).1 p) (nxP (trimA s).1 (trimA t).1) (goJ (trimA s).1 (trimA t).1) W l∧Fn G f_r07_Join [eSp s,eSp t] (eSp W):=by
 obtain ⟨hT,hTa⟩:=Cx hs;obtain ⟨hU,hUa⟩:=Cx ht;have hk8':=Au hs.acts;have r1:∀ {roots:List Nat}{b:Nat}{ss:List Nat}{σ:St}{k:AV→St→Prop},callT G Bt [.agg [.lst (s.acts.map .str),.lst (s.S.map eSt)]] true roots b ss σ k=k (.tup [eSp (trimA s).1,.lst ((trimA s).2.map eN)]) σ:=Tr (hs.b hs.sz) hs.s1 hk8';have r2:∀ {roots:List Nat}{b:Nat}{ss:List Nat}{σ:St}{k:AV→St→Prop},callT G Bt [.agg [.lst (t.acts.map .str),.lst (t.S.map eSt)]] true roots b ss σ k=k (.tup [eSp (trimA t).1,.lst ((trimA t).2.map eN)]) σ:=Tr (ht.b ht.sz) ht.s1 (by rw [he];exact hk8');have he':(trimA t).1.acts=(trimA s).1.acts:=by rw [hUa,hTa,he]
 rw [←hTa]
 suffices hh:FnP G f_r07_Join [eSp s,eSp t] (fun rs h=>∃W l,PS (Cd (trimA s).1.S.length (trimA t).1.S.length) (trimA s).1.acts (fun p v=>v∈setsJ (trimA s).1 (trimA t).1 p) (nxP (trimA s).1 (trimA t).1) (goJ (trimA s).1 (trimA t).1) W l∧packV (treeBL 0 h rs)=eSp W) by
  obtain ⟨v,⟨W,l,hP,rfl⟩,hf⟩:=FnP.ex (P:=fun v=>∃W l,PS (Cd (trimA s).1.S.length (trimA t).1.S.length) (trimA s).1.acts (fun p v=>v∈setsJ (trimA s).1 (trimA t).1 p) (nxP (trimA s).1 (trimA t).1) (goJ (trimA s).1 (trimA t).1) W l∧v=eSp W) hh;exact ⟨W,l,hP,hf⟩
 refine FnP.mk' Aar rfl rfl ?_;simp only [go_sem,↓reduceIte,↓Aa,Rn,eSp,r1,r2];clear r1 r2;generalize (trimA s).2=l1;generalize (trimA t).2=l2;have hs0:=hs;have ht0:=ht;generalize hs'':s=s0 at *;generalize ht'':t=t0 at *;clear hs'' ht'';generalize (trimA s0).1=s at *;generalize (trimA t0).1=t at *;clear he;have hs:=hT.ok;have ht:=hU.ok;have he:=he';have hk8:=Au hs.acts;have hs1:=hs.s1;have ht1:=ht.s1;have hs2:=hs.s2;have ht2:=ht.s2;refine ⟨by omega,?_⟩;refine Ac (fun (g:List Pr×List Stt) σ=>CI (Cd s.S.length t.S.length) s.acts.length (setsJ s t) (nxP s t) (goJ s t) g.2.length g.1 g.2∧∃a3 c3 z4 s5 c5 a6 c6 a7 c7 a8 c8 a9 c9 a10 c10 a11 c11 a12 c12 a13 c13 a14 c14 a15 c15,mv1 0 6 5 σ=⟨aT .undef 107 [(6,.sl 5 s5 [] 0 0 g.1.length),(2,.ptr 0 1 [] 0 0 0),(3,.ptr 1 1 [] 0 0 0),(4,.ptr 2 1 [] 0 0 0),(5,.ptr 4 1 [] 0 0 0),(7,I g.2.length)],[⟨1,0,.own 2 [.agg [.lst (s.acts.map .str),.lst (s.S.map eSt)]]⟩,⟨1,0,.own 2 [.agg [.lst (t.acts.map .str),.lst (t.S.map eSt)]]⟩,⟨1,0,.own 2 [.agg [.nils,.nils]]⟩,⟨a3,c3,.gone⟩,⟨1,z4,.own 2 [.agg [cellv .nils 1 (s.acts.map .str),cellv .nils 2 (g.2.map rowS)]]⟩,⟨s5,c5,.own 2 (g.1.map ePr)⟩,⟨a6,c6,.gone⟩,⟨a7,c7,.gone⟩,⟨a8,c8,.gone⟩,⟨a9,c9,.gone⟩,⟨a10,c10,.gone⟩,⟨a11,c11,.gone⟩,⟨a12,c12,.gone⟩,⟨a13,c13,.gone⟩,⟨a14,c14,.gone⟩,⟨a15,c15,.gone⟩],[]⟩) (fun g=>13000-g.2.length) ?_ ([(0,0)],[]) ?_
 ·rintro ⟨l,outs⟩ σ ⟨hI,a3,c3,z4,s5,c5,a6,c6,a7,c7,a8,c8,a9,c9,a10,c10,a11,c11,a12,c12,a13,c13,a14,c14,a15,c15,hσ⟩ N Q hQ hN;simp only at hI hσ;rw [Ru,hσ];have hil:=hI.il;have hll:=Ki hI.nd hI.good;by_cases hlt:outs.length<l.length
  ·have hgp:=hI.good _ (AI hlt);have hnext:=fun {a:Nat}{l':List Pr}{X:List Int}=>hI.next (a:=a) (l:=l') (X:=X) hlt;have hsM:setsJ s t l[outs.length]! = uniL (acL7 s l[outs.length]!.1) (acL7 t l[outs.length]!.2):=rfl;generalize hpe:l[outs.length]! = p at *;obtain ⟨p1,p2⟩:=p;obtain ⟨g1,g2,g3,g4,g5⟩:=hgp;simp only at g1 g2 g3 g4 g5 hsM;have hal:=(FM hs g2).2;have hbl:=(FM ht g4).2;have c1:∀ {roots:List Nat}{b:Nat}{ss:List Nat}{σ:St}{k:AV→St→Prop},callT G Bu [.agg [.lst (s.acts.map .str),.lst (s.S.map eSt)],I p1] true roots b ss σ k=k (.lst ((acL7 s p1).map I)) σ:=(SA s p1 g2).rule;have c2:∀ {roots:List Nat}{b:Nat}{ss:List Nat}{σ:St}{k:AV→St→Prop},callT G Bu [.agg [.lst (t.acts.map .str),.lst (t.S.map eSt)],I p2] true roots b ss σ k=k (.lst ((acL7 t p2).map I)) σ:=(SA t p2 g4).rule;simp only [go_sem,↓reduceIte,↓Aa,Int.ofNat_lt,hlt,ePr,hpe,c1,c2];refine ⟨by omega,?_⟩;refine Ac (fun (j:Nat) σ=>j≤(acL7 t p2).length∧∃a7 c7 z8 a9 c9 a10 c10 a11 c11 a12 c12 a13 c13 a14 c14 a15 c15,σ=⟨aT .undef 107 [(2,.ptr 0 1 [] 0 0 0),(3,.ptr 1 1 [] 0 0 0),(4,.ptr 2 1 [] 0 0 0),(5,.ptr 4 1 [] 0 0 0),(6,.sl 5 s5 [] 0 0 l.length),(7,I outs.length),(8,.ptr 6 (a6+1) [] 0 0 0),(9,.ptr 8 (a8+1) [] 0 0 0),(50,.lst ((acL7 t p2).map I)),(51,I (acL7 t p2).length),(52,I j)],[⟨1,0,.own 2 [.agg [.lst (s.acts.map .str),.lst (s.S.map eSt)]]⟩,⟨1,0,.own 2 [.agg [.lst (t.acts.map .str),.lst (t.S.map eSt)]]⟩,⟨1,0,.own 2 [.agg [.nils,.nils]]⟩,⟨a3,c3,.gone⟩,⟨1,z4,.own 2 [.agg [cellv .nils 1 (s.acts.map .str),cellv .nils 2 (outs.map rowS)]]⟩,⟨s5,c5,.own 2 (l.map ePr)⟩,⟨a6+1,0,.own 2 [.agg [I p1,I p2]]⟩,⟨a7,c7,.gone⟩,⟨a8+1,z8,.own 2 [.agg [cellv .nils 1 ((uniL (acL7 s p1) ((acL7 t p2).take j)).map I),.nils]]⟩,⟨a9,c9,.gone⟩,⟨a10,c10,.gone⟩,⟨a11,c11,.gone⟩,⟨a12,c12,.gone⟩,⟨a13,c13,.gone⟩,⟨a14,c14,.gone⟩,⟨a15,c15,.gone⟩],[]⟩) (fun j=>(acL7 t p2).length-j) ?_ 0 ?_
   ·rintro j σ ⟨hj,a7,c7,z8,a9,c9,a10,c10,a11,c11,a12,c12,a13,c13,a14,c14,a15,c15,rfl⟩ N2 Q2 hQ2 hN2;by_cases hlt2:j<(acL7 t p2).length
    ·have hul:(uniL (acL7 s p1) ((acL7 t p2).take j)).length≤512:=Nat.le_trans X2 (by rw [List.length_take];omega);have htk:=AbK (a:=acL7 s p1) hlt2;generalize uniL (acL7 s p1) ((acL7 t p2).take j)=L at *;simp only [go_sem,↓reduceIte,↓Aa,Int.ofNat_lt,hlt2,Ab hlt2 (show (acL7 t p2).length≤1000000000 by omega)];generalize (acL7 t p2)[j]! = w at *;refine AhM (l:=L) rfl (by omega) (fun hpe hne=>?_) ?_
     ·have hLn:L.map I≠[]:=by simpa using hne
      rw [cellv_ne hLn];simp only [go_sem,↓reduceIte,↓Aa];refine hN2 (j+1) _ (by omega) ⟨by omega,?_⟩;rw [htk,hpe,cellv_ne hLn];simp only [go_sem,↓reduceIte,↓Aa,Ab hlt2 (show (acL7 t p2).length≤1000000000 by omega)];repeat apply Exists.intro
      rfl
     ·simp only [go_sem,↓reduceIte,↓Aa,Ab hlt2 (show (acL7 t p2).length≤1000000000 by omega)];refine hN2 (j+1) _ (by omega) ⟨by omega,?_⟩;rw [htk,cellv_ne Agy];simp only [go_sem,↓reduceIte,↓Aa];repeat apply Exists.intro
      rfl
    ·have hjl:j=(acL7 t p2).length:=by omega
     subst hjl hQ2;simp only [go_sem,↓reduceIte,↓Aa,Int.ofNat_lt,hlt2,List.take_length];rw [←hsM];generalize hFe:setsJ s t (p1,p2)=F at *;refine Ac (fun (g:List Pr×List Int) σ=>g.2.length≤s.acts.length∧CX (Cd s.S.length t.S.length) s.acts.length (goJ s t (p1,p2)) (nxP s t (p1,p2)) l g.2.length g.1 (padX s.acts.length g.2)∧∃s5 c5 z8 a9 c9 a10 c10 a11 c11 a12 c12 a13 c13 a14 c14 a15 c15,mv1 0 6 5 σ=⟨aT .undef 107 [(6,.sl 5 s5 [] 0 0 g.1.length),(2,.ptr 0 1 [] 0 0 0),(3,.ptr 1 1 [] 0 0 0),(4,.ptr 2 1 [] 0 0 0),(5,.ptr 4 1 [] 0 0 0),(7,I outs.length),(8,.ptr 6 (a6+1) [] 0 0 0),(9,.ptr 8 (a8+1) [] 0 0 0),(64,I s.acts.length),(65,I g.2.length)],[⟨1,0,.own 2 [.agg [.lst (s.acts.map .str),.lst (s.S.map eSt)]]⟩,⟨1,0,.own 2 [.agg [.lst (t.acts.map .str),.lst (t.S.map eSt)]]⟩,⟨1,0,.own 2 [.agg [.nils,.nils]]⟩,⟨a3,c3,.gone⟩,⟨1,z4,.own 2 [.agg [cellv .nils 1 (s.acts.map .str),cellv .nils 2 (outs.map rowS)]]⟩,⟨s5,c5,.own 2 (g.1.map ePr)⟩,⟨a6+1,0,.own 2 [.agg [I p1,I p2]]⟩,⟨a7,c7,.gone⟩,⟨a8+1,z8,.own 2 [.agg [cellv .nils 1 (F.map I),cellv .nils 1 (g.2.map I)]]⟩,⟨a9,c9,.gone⟩,⟨a10,c10,.gone⟩,⟨a11,c11,.gone⟩,⟨a12,c12,.gone⟩,⟨a13,c13,.gone⟩,⟨a14,c14,.gone⟩,⟨a15,c15,.gone⟩],[]⟩) (fun g=>s.acts.length-g.2.length) ?_ (l,[]) ?_
     ·rintro ⟨l',X⟩ σ ⟨hXn,hX,s5,c5,z8,a9,c9,a10,c10,a11,c11,a12,c12,a13,c13,a14,c14,a15,c15,hσ⟩ N3 Q3 hQ3 hN3;simp only at hXn hX hσ;rw [Ru,hσ];by_cases hlt3:X.length<s.acts.length
      ·have n1:∀ {fr:Bool}{roots:List Nat}{b:Nat}{ss:List Nat}{σ:St}{k:AV→St→Prop},callT G Ce [.agg [.lst (s.acts.map .str),.lst (s.S.map eSt)],I p1,I X.length] fr roots b ss σ k=k (I (nx1 s p1 X.length)) σ:=(OD s p1 g2 X.length fun h=>by rw [(hs.st p1.toNat (by omega)).len];exact hlt3).rule;have n2:∀ {fr:Bool}{roots:List Nat}{b:Nat}{ss:List Nat}{σ:St}{k:AV→St→Prop},callT G Ce [.agg [.lst (t.acts.map .str),.lst (t.S.map eSt)],I p2,I X.length] fr roots b ss σ k=k (I (nx1 t p2 X.length)) σ:=(OD t p2 g4 X.length fun h=>by rw [(ht.st p2.toNat (by omega)).len,he];exact hlt3).rule;have hl':=Ki hX.nd (hX.good);have hgo:goJ s t (p1,p2) X.length↔0≤nx1 s p1 X.length∨0≤nx1 t p2 X.length:=Iff.rfl;have hnq:nxP s t (p1,p2) X.length=(nx1 s p1 X.length,nx1 t p2 X.length):=rfl;have hgd:=AfH hs ht he (p:=(p1,p2)) ⟨g1,g2,g3,g4,g5⟩ hlt3;have hold:=hX.old hlt3;have hnew:=hX.new hlt3;rw [hnq] at hold hnew hgd;have hskip:=hX.skip;rw [←Vd hlt3] at hskip;have w0:=Ab hlt3 (show s.acts.length≤1000000000 by omega);by_cases hq1:0≤nx1 s p1 X.length
       ·have hg:=hgo.2 (.inl hq1);generalize nx1 s p1 X.length=q1 at *;generalize nx1 t p2 X.length=q2 at *;simp only [go_sem,↓reduceIte,↓Aa,Int.ofNat_lt,hlt3,n1,n2,hq1,AJ C1];refine place_ok (q:=(q1,q2)) rfl (by omega) hX.nd (fun hm=>?_) (fun hm=>?_)
        ·simp only [go_sem,↓reduceIte,↓Aa,w0];have hc:=hold hg hm;rw [Lh hlt3] at hc;refine ⟨by omega,hN3 (l',X++[((l'.idxOf (q1,q2):Nat):Int)]) _ (by simp only [List.length_append,List.length_singleton];omega) ⟨by simp only [List.length_append,List.length_singleton];omega,by simp only [List.length_append,List.length_singleton];exact hc,?_⟩⟩;simp only [go_sem,↓reduceIte,↓Aa];rw [DH rfl (by decide)];simp only [go_sem,↓reduceIte,↓Aa,List.map_append];repeat apply Exists.intro
         rfl
        ·simp only [go_sem,↓reduceIte,↓Aa,w0,ePr];have hc:=hnew hg (hgd hg) hm;rw [Lh hlt3] at hc;refine ⟨by omega,hN3 (l'++[(q1,q2)],X++[((l'.length:Nat):Int)]) _ (by simp only [List.length_append,List.length_singleton];omega) ⟨by simp only [List.length_append,List.length_singleton];omega,by simp only [List.length_append,List.length_singleton];exact hc,?_⟩⟩;simp only [go_sem,↓reduceIte,↓Aa];rw [OH (r:=11) rfl rfl rfl (by decide) (by simp) (by decide)];simp only [go_sem,↓reduceIte,↓Aa,List.map_append,ePr,List.length_append,List.length_singleton];repeat apply Exists.intro
         rfl
       ·by_cases hq2:0≤nx1 t p2 X.length
        ·have hg:=hgo.2 (.inr hq2);generalize nx1 s p1 X.length=q1 at *;generalize nx1 t p2 X.length=q2 at *;simp only [go_sem,↓reduceIte,↓Aa,Int.ofNat_lt,hlt3,n1,n2,hq1,hq2,AJ C1];refine place_ok (q:=(q1,q2)) rfl (by omega) hX.nd (fun hm=>?_) (fun hm=>?_)
         ·simp only [go_sem,↓reduceIte,↓Aa,w0];have hc:=hold hg hm;rw [Lh hlt3] at hc;refine ⟨by omega,hN3 (l',X++[((l'.idxOf (q1,q2):Nat):Int)]) _ (by simp only [List.length_append,List.length_singleton];omega) ⟨by simp only [List.length_append,List.length_singleton];omega,by simp only [List.length_append,List.length_singleton];exact hc,?_⟩⟩;simp only [go_sem,↓reduceIte,↓Aa];rw [DH rfl (by decide)];simp only [go_sem,↓reduceIte,↓Aa,List.map_append];repeat apply Exists.intro
          rfl
         ·simp only [go_sem,↓reduceIte,↓Aa,w0,ePr];have hc:=hnew hg (hgd hg) hm;rw [Lh hlt3] at hc;refine ⟨by omega,hN3 (l'++[(q1,q2)],X++[((l'.length:Nat):Int)]) _ (by simp only [List.length_append,List.length_singleton];omega) ⟨by simp only [List.length_append,List.length_singleton];omega,by simp only [List.length_append,List.length_singleton];exact hc,?_⟩⟩;simp only [go_sem,↓reduceIte,↓Aa];rw [OH (r:=11) rfl rfl rfl (by decide) (by simp) (by decide)];simp only [go_sem,↓reduceIte,↓Aa,List.map_append,ePr,List.length_append,List.length_singleton];repeat apply Exists.intro
          rfl
        ·have hg:=fun g=>(hgo.1 g).elim hq1 hq2;have hc:=hskip hg;generalize nx1 s p1 X.length=q1 at *;generalize nx1 t p2 X.length=q2 at *;simp only [go_sem,↓reduceIte,↓Aa,Int.ofNat_lt,hlt3,n1,n2,hq1,hq2,AJ C1,w0];refine ⟨by omega,hN3 (l',X++[-1]) _ (by simp only [List.length_append,List.length_singleton];omega) ⟨by simp only [List.length_append,List.length_singleton];omega,by simp only [List.length_append,List.length_singleton];exact hc,?_⟩⟩;simp only [go_sem,↓reduceIte,↓Aa];rw [DH rfl (by decide)];simp only [go_sem,↓reduceIte,↓Aa,List.map_append];repeat apply Exists.intro
         rfl
      ·have hXl:X.length=s.acts.length:=by omega
       subst hQ3;simp only [go_sem,↓reduceIte,↓Aa,Int.ofNat_lt,hlt3,Ab hlt (show l.length≤1000000000 by omega)];refine ⟨by omega,hN (l',outs++[⟨F,X⟩]) _ (by simp only [List.length_append,List.length_singleton];omega) ⟨?_,?_⟩⟩
       ·simp only [List.length_append,List.length_singleton];refine hnext (a:=X.length) (fun b hb hab _=>by omega) ?_;rw [X7 hXl] at hX;exact hX
       ·simp only [go_sem,↓reduceIte,↓Aa];rw [DH rfl (by decide)];simp only [go_sem,↓reduceIte,↓Aa,List.map_append,rowS];repeat apply Exists.intro
        rfl
     ·refine ⟨by simp,by simp only [List.length_nil,XD];exact CX.start hI.nd hI.good,?_⟩;simp only [go_sem,↓reduceIte,↓Aa];rw [DH rfl (by decide)];simp only [go_sem,↓reduceIte,↓Aa];repeat apply Exists.intro
      rfl
   ·refine ⟨by omega,?_⟩;simp only [go_sem,↓reduceIte,↓Aa,List.take_zero,uniL,List.foldl_nil];repeat apply Exists.intro
    rfl
  ·subst hQ;simp only [go_sem,↓reduceIte,↓Aa,Int.ofNat_lt,hlt,UQ];refine ⟨⟨s.acts,outs⟩,l,hI.fin (by omega) rfl (fun p hp=>?_),rfl⟩;exact RU (FM hs hp.2.1).1
 ·refine ⟨CI.start ⟨by omega,by omega,by omega,by omega,.inl (by omega)⟩,?_⟩;simp only [go_sem,↓reduceIte,↓Aa];rw [DH rfl (by decide)];simp only [go_sem,↓reduceIte,↓Aa,ePr,List.map_nil,cellv_nil];repeat apply Exists.intro
  rfl
theorem light07_big (s:Spc)(hs:SpBig s):∃v,FnT G Fj [eSp s] (Bo v)∧(v=true→SpSz s∧s.S.length≤30):=by
 obtain ⟨v,hv,hP⟩:=AdJ s hs 600 (by omega) (by omega);have hcall:∀ {fr:Bool}{roots:List Nat}{b:Nat}{ss:List Nat}{σ:St}{k:AV→St→Prop},callT G JZ [.agg [.lst (s.acts.map .str),.lst (s.S.map eSt)],.int .i64 600] fr roots b ss σ k=k (Bo v) σ:=hv.rule;refine FnP.flatB (FnP.mk' WA rfl rfl ?_);have hS:=hs.fs;simp only [go_sem,↓reduceIte,↓Aa,Qf,eSp];by_cases h:(s.S.length:Int)≤30
 ·simp only [go_sem,↓reduceIte,↓Aa,h,hcall,XJ];exact fun hv=>⟨hP hv,by omega⟩
 ·simp only [go_sem,↓reduceIte,↓Aa,h,XJ]
theorem Abq {m:Nat}(s:Spc)(hs:SpcK m s)(ht:(trimA s).1=s):FnT G Ez [eSp s] (Bo true):=by
 have hr:∀ {roots:List Nat}{b:Nat}{ss:List Nat}{σ:St}{k:AV→St→Prop},callT G Bt [.agg [.lst (s.acts.map .str),.lst (s.S.map eSt)]] true roots b ss σ k=k (.tup [eSp (trimA s).1,.lst ((trimA s).2.map eN)]) σ:=Tr (hs.b hs.sz) hs.s1 (Au hs.acts);rw [ht] at hr;refine FnP.mk' Ur rfl rfl ?_;simp only [go_sem,↓reduceIte,↓Aa,NJ,eSp,hr,Aix hs.sz]
open Classical in
theorem AeQ {q:Nat}(g w:Spc)(hg:CR g)(hw:SpcK q w)(ha:g.acts=w.acts)(ht:(trimA g).1=g)(he:Ref (trimA g).1 w∧Ref (trimA w).1 g):FnT G BK [eSp g,eSp w] (Bo true):=by
 have hz:=hg.sz;have hi:∀ {fr:Bool}{roots:List Nat}{b:Nat}{ss:List Nat}{σ:St}{k:AV→St→Prop},callT G Ez [.agg [.lst (g.acts.map .str),.lst (g.S.map eSt)]] fr roots b ss σ k=k (Bo true) σ:=(Abq g hg ht).rule;have h8:=Au hg.acts;have h8w:=Au hw.acts;have hs:∀ {fr:Bool}{roots:List Nat}{b:Nat}{ss:List Nat}{σ:St}{k:AV→St→Prop},callT G AD [.lst (g.acts.map .str),.lst (w.acts.map .str)] fr roots b ss σ k=k (Bo true) σ:=by
  intros;rw [Yb (by omega) (by omega),decide_eq_true ha]
 have hq:∀ {fr:Bool}{roots:List Nat}{b:Nat}{ss:List Nat}{σ:St}{k:AV→St→Prop},callT G D3 [.agg [.lst (g.acts.map .str),.lst (g.S.map eSt)],.agg [.lst (w.acts.map .str),.lst (w.S.map eSt)]] fr roots b ss σ k=k (Bo true) σ:=by
  intros;rw [AdF hg hw (by rw [ha]),decide_eq_true he]
 refine FnP.mk' Ns rfl rfl ?_;simp only [go_sem,↓reduceIte,↓Aa,Q8,eSp,Afu hz,hg,hi,hs,hq]
theorem Ab9 {fr:Bool}{roots:List Nat}{b:Nat}{ss:List Nat}{σ:St}{k:AV→St→Prop}:callT G Fu [.agg [.lst [],.lst []]] fr roots b ss σ k=k (Bo true) σ:=(Ad6 zSpc).rule
theorem Aes (w:Spc)(e:Int)(h:e≠0)(b:Bool):FnT G BU [eSp zSpc,I e,I e,eSp w,Bo b] (Bo true):=by
 have h1:(e != 0)=true:=by simpa using h
 refine FnP.mk' Nt rfl rfl ?_;simp only [go_sem,↓reduceIte,↓Aa,Lg,eSp,zSpc,List.map_nil,h1,Ab9]
theorem RD (w:Spc):FnT G BU [eSp zSpc,I 2,I 0,eSp w,Bo true] (Bo true):=by
 refine FnP.mk' Nt rfl rfl ?_;simp only [go_sem,↓reduceIte,↓Aa,Lg,eSp,zSpc,List.map_nil,Ab9]
theorem Vp (g w:Spc)(hf:FnT G BK [eSp g,eSp w] (Bo true))(b:Bool):FnT G BU [eSp g,I 0,I 0,eSp w,Bo b] (Bo true):=by
 have hr:∀ {fr:Bool}{roots:List Nat}{b:Nat}{ss:List Nat}{σ:St}{k:AV→St→Prop},callT G BK [.agg [.lst (g.acts.map .str),.lst (g.S.map eSt)],.agg [.lst (w.acts.map .str),.lst (w.S.map eSt)]] fr roots b ss σ k=k (Bo true) σ:=hf.rule;refine FnP.mk' Nt rfl rfl ?_;simp only [go_sem,↓reduceIte,↓Aa,Lg,eSp,hr]
theorem Mv {s t:Spc}:(fun (p:Pr) (v:Int)=>v∈setsJ s t p)=accJ s t:=by
 funext p v;exact propext KQ
theorem fine_bi {q:Nat}{C W:Spc}{R:Nat→Nat→Prop}(h:Bi C W R)(hC:CR C)(hW:SpcK q W):FnT G BK [eSp (trimA C).1,eSp W] (Bo true):=by
 obtain ⟨hT,hTa⟩:=Cx hC;exact AeQ _ W hT.ok hW (by rw [hTa,h.e]) (D9 hC) (h.both hC hW)
theorem Bi.trans {A B C:Spc}{R S:Nat→Nat→Prop}(h:Bi A B R)(g:Bi B C S):Bi A C (fun x z=>∃y,R x y∧S y z) :=
 ⟨h.e.trans g.e,⟨0,h.z,g.z⟩,fun x z ⟨y,h1,h2⟩=>⟨(h.lt x y h1).1,(g.lt y z h2).2⟩,fun x z ⟨y,h1,h2⟩ v=>(h.acc x y h1 v).trans (g.acc y z h2 v),
  fun x z ⟨y,h1,h2⟩ v hv a ha=>⟨_,h.nx x y h1 v hv a ha,g.nx y z h2 v ((h.acc x y h1 v).1 hv) a ha⟩⟩
theorem Bi.refl {m:Nat}{A:Spc}(h:SpcK m A):Bi A A (fun x y=>x=y∧x<A.S.length):=by
 have h1:=h.s1;refine ⟨rfl,⟨rfl,h1⟩,fun x y ⟨e,hx⟩=>⟨hx,by omega⟩,fun x y ⟨e,hx⟩ v=>by rw [e],fun x y ⟨e,hx⟩ v hv a ha=>?_⟩;subst e;obtain ⟨f1,f2⟩:=h.ltA hx hv ha;have:=(h.st x hx).x a f1;exact ⟨rfl,by omega⟩
theorem Bi.trim {A B:Spc}{R:Nat→Nat→Prop}(h:Bi A B R){m q:Nat}(hA:SpcK m A)(hB:SpcK q B):∃R',Bi (trimA A).1 (trimA B).1 R':=by
 cases h0:(Cn A)[0]! with
 | true =>
   have h0B:(Cn B)[0]! = true:=(Cw hB.s1).2 (h.hol hA hB h.z ((Cw hA.s1).1 h0));rw [Kl h0,Kl h0B,h.e];refine ⟨fun x y=>x=0∧y=0,⟨rfl,⟨rfl,rfl⟩,fun x y ⟨e1,e2⟩=>by subst e1 e2;simp [Bl],fun x y ⟨e1,e2⟩ v=>by rw [e1,e2],fun x y ⟨e1,e2⟩ v hv=>by subst e1;simp [Bl] at hv⟩⟩
 | false =>
   have h0B:(Cn B)[0]! = false:=by
    cases hb:(Cn B)[0]! with
    | false=>rfl
    | true =>
      have:=h.symm.hol hB hA h.z ((Cw hB.s1).1 hb);rw [(Cw hA.s1).2 this] at h0;cases h0
   rw [trimA_f h0,trimA_f h0B];have hb:=hA.b hA.sz;have h1:0<A.S.length:=hA.s1;have hbB:=hB.b hB.sz;have h1B:0<B.S.length:=hB.s1;have lA:(Ao A).S.length=(ordOf A).length:=by simp [Ao]
   have lB:(Ao B).S.length=(ordOf B).length:=by simp [Ao]
   have acc:∀i j,i<(ordOf A).length∧j<(ordOf B).length∧R (ordOf A)[i]! (ordOf B)[j]!→∀v,v∈(Ao A).S[i]!.A↔v∈(Ao B).S[j]!.A:=by
    rintro i j ⟨hi,hj,hr⟩ v;rw [(JJ hA h0 hi).1,(JJ hB h0B hj).1];exact ⟨h.kept hA hB hr,h.symm.kept hB hA hr⟩
   refine ⟨fun i j=>i<(ordOf A).length∧j<(ordOf B).length∧R (ordOf A)[i]! (ordOf B)[j]!,⟨h.e,⟨JM hb h1,JM hbB h1B,by rw [Lt hb h1,Lt hbB h1B];exact h.z⟩,?_,acc,?_⟩⟩
   ·rintro i j ⟨hi,hj,hr⟩;exact ⟨by rw [lA];exact hi,by rw [lB];exact hj⟩
   ·rintro i j ⟨hi,hj,hr⟩ v hv a hva;have hv2:=(acc i j ⟨hi,hj,hr⟩ v).1 hv;obtain ⟨g1,g2,g3⟩:=PG hA h0 hi hv hva;obtain ⟨f1,f2,f3⟩:=PG hB h0B hj hv2 hva;refine ⟨g2,f2,?_⟩;rw [g3,f3];rw [(JJ hA h0 hi).1] at hv;exact h.nx _ _ hr v (Ln.1 hv).1 a hva
theorem PS.bi3 {Gd1 Gd2:Pr→Prop}{acts:List ByteArray}{acc1 acc2:Pr→Int→Prop}{nx1 nx2:Pr→Nat→Pr}{go1 go2:Pr→Nat→Prop}{A B:Spc}{l k:List Pr}(h:PS Gd1 acts acc1 nx1 go1 A l)(g:PS Gd2 acts acc2 nx2 go2 B k)
 (hA:AccOk Gd1 acts.length acc1 go1) (hB:AccOk Gd2 acts.length acc2 go2) (Q:Pr→Pr→Prop) (z:Q (0,0) (0,0)) (he:∀p q v,Gd1 p→Gd2 q→Q p q→(acc1 p v↔acc2 q v))
 (hn:∀p q v a,Gd1 p→Gd2 q→Q p q→acc1 p v→acc2 q v→hasA v a=true→a<acts.length→Q (nx1 p a) (nx2 q a)):Bi A B (fun x y=>x<l.length∧y<k.length∧Q l[x]! k[y]!):=by
 refine ⟨by rw [h.ac,g.ac],⟨h.pos,g.pos,by rw [h.zero,g.zero];exact z⟩,fun x y hr=>⟨by rw [h.len];exact hr.1,by rw [g.len];exact hr.2.1⟩,fun x y hr v=>?_,fun x y hr v hv a ha=>?_⟩
 ·obtain ⟨hx,hy,e⟩:=hr;rw [h.a x hx,g.a y hy];exact he _ _ _ (h.good _ (AI hx)) (g.good _ (AI hy)) e
 ·obtain ⟨hx,hy,e⟩:=hr;have hg1:=h.good _ (AI hx);have hg2:=g.good _ (AI hy);have hv1:=(h.a x hx v).1 hv;have hv2:=(he _ _ _ hg1 hg2 e).1 hv1;have hb:=hA.b _ _ hg1 hv1;have hlt:a<acts.length:=Bz (n:=v.toNat) (by omega) ha;obtain ⟨f1,f2,f3⟩:=h.xg x hx a hlt (hA.g _ _ a hg1 hv1 ha);obtain ⟨d1,d2,d3⟩:=g.xg y hy a hlt (hB.g _ _ a hg2 hv2 ha);exact ⟨f2,d2,by rw [f3,d3];exact hn _ _ v a hg1 hg2 e hv1 hv2 ha hlt⟩
section
variable {m q r:Nat}{s A B:Spc}
theorem Bi.met {R:Nat→Nat→Prop}{C M:Spc}{l k:List Pr}(h:Bi A B R)(hA:SpcK m A)(hB:SpcK q B)(hs:SpcK r s)
 (hC:PS (gdM A.S.length s.S.length) A.acts (accM A s) (nxP A s) (usedP (accM A s)) C l) (hM:PS (gdM B.S.length s.S.length) B.acts (accM B s) (nxP B s) (goM B s) M k):∃R',Bi C M R':=by
 rw [←h.e] at hM;have hoB:=LV hB hs;rw [←h.e] at hoB;refine ⟨_,hC.bi3 hM (LV hA hs).used hoB (fun p q=>R p.1.toNat q.1.toNat∧p.2=q.2) ⟨h.z,rfl⟩ (fun p q v hp hq hQ=>?_) (fun p q v a hp hq hQ h1 h2 ha hlt=>?_)⟩
 ·unfold accM accP;rw [h.acc _ _ hQ.1 v,hQ.2];have:=hp.1;have:=hq.1;constructor
  ·rintro ⟨⟨_,f⟩,g⟩;exact ⟨⟨hq.1,f⟩,g⟩
  ·rintro ⟨⟨_,f⟩,g⟩;exact ⟨⟨hp.1,f⟩,g⟩
 ·have:=hp.1;have:=hq.1;simp only [nxP,nx1];rw [if_neg (by omega),if_neg (show ¬q.1<0 by omega),hQ.2];exact ⟨h.nx _ _ hQ.1 v h1.1.2 a ha,rfl⟩
theorem Bi.tight {R:Nat→Nat→Prop}(h:Bi A B R)(hA:TSpcK m A)(hB:TSpcK q B){x y a:Nat}(hr:R x y)(ha:a<A.acts.length) :
 (A.S[x]!.X[a]! < 0∧B.S[y]!.X[a]! < 0)∨(0≤A.S[x]!.X[a]!∧0≤B.S[y]!.X[a]!∧R A.S[x]!.X[a]!.toNat B.S[y]!.X[a]!.toNat):=by
 obtain ⟨hx,hy⟩:=h.lt x y hr;have l1:=(hA.ok.st x hx).len;have l2:=(hB.ok.st y hy).len;by_cases h0:0≤A.S[x]!.X[a]!
 ·obtain ⟨v,hv,hva⟩:=hA.tight x hx a (by rw [l1];exact ha) h0;exact .inr ⟨h0,(hB.ok.ltA hy ((h.acc x y hr v).1 hv) hva).2,h.nx x y hr v hv a hva⟩
 ·refine .inl ⟨by omega,?_⟩;by_cases h1:0≤B.S[y]!.X[a]!
  ·obtain ⟨v,hv,hva⟩:=hB.tight y hy a (by rw [l2,←h.e];exact ha) h1;exact absurd (hA.ok.ltA hx ((h.acc x y hr v).2 hv) hva).2 h0
  ·omega
theorem Bi.join {R:Nat→Nat→Prop}{C M:Spc}{l k:List Pr}(h:Bi A B R)(hA:TSpcK m A)(hB:TSpcK q B)(hs:SpcK r s)(he:s.acts=A.acts)
 (hC:PS (Cd A.S.length s.S.length) A.acts (accJ A s) (nxP A s) (usedP (accJ A s)) C l) (hM:PS (Cd B.S.length s.S.length) A.acts (accJ B s) (nxP B s) (goJ B s) M k):∃R',Bi C M R':=by
 have hoB:=Lc hB.ok hs (by rw [he,h.e]);rw [←h.e] at hoB;refine ⟨_,hC.bi3 hM (Lc hA.ok hs he).used hoB (fun p q=>((p.1<0∧q.1<0)∨(0≤p.1∧0≤q.1∧R p.1.toNat q.1.toNat))∧p.2=q.2) ⟨.inr ⟨Int.le_refl _,Int.le_refl _,h.z⟩,rfl⟩ (fun p q v hp hq hQ=>?_) (fun p q v a hp hq hQ h1 h2 ha hlt=>?_)⟩
 ·unfold accJ;rw [hQ.2];refine or_congr ?_ Iff.rfl;unfold accP;rcases hQ.1 with ⟨f1,f2⟩|⟨f1,f2,hr⟩
  ·constructor
   ·rintro ⟨g,_⟩;omega
   ·rintro ⟨g,_⟩;omega
  ·rw [h.acc _ _ hr v];exact ⟨fun g=>⟨f2,g.2⟩,fun g=>⟨f1,g.2⟩⟩
 ·refine ⟨?_,by simp only [nxP];rw [hQ.2]⟩;simp only [nxP,nx1];rcases hQ.1 with ⟨f1,f2⟩|⟨f1,f2,hr⟩
  ·rw [if_pos f1,if_pos f2];exact .inl ⟨by omega,by omega⟩
  ·rw [if_neg (by omega),if_neg (show ¬q.1<0 by omega)];exact h.tight hA hB hr hlt
end
end Go.Mw
namespace Go.Mw
set_option maxRecDepth 100000
def upI (n:Nat):List Int:=(List.range n).map fun (i:Nat)=>(i:Int)
theorem Nm {n:Nat}:(upI n).length=n:=by simp [upI]
theorem Yi {n:Nat}:upI (n+1)=upI n++[(n:Int)]:=by simp [upI,List.range_succ]
theorem Af3 {n:Nat}{v:Int}:v∈upI n↔0≤v∧v<(n:Int):=by
 unfold upI;constructor
 ·intro h;obtain ⟨i,hi,rfl⟩:=List.mem_map.1 h;rw [List.mem_range] at hi;omega
 ·rintro ⟨h1,h2⟩;exact List.mem_map.2 ⟨v.toNat,by rw [List.mem_range];omega,by omega⟩
theorem Wg {n i:Nat}(h:i<n):(upI n)[i]! = (i:Int):=by
 rw [getElem!_pos _ i (by rw [Nm];exact h)];simp [upI]
def evSpc (acts:List ByteArray):Spc:=⟨acts,[⟨upI (2 ^ acts.length),List.replicate acts.length 0⟩]⟩
theorem AdD (acts:List ByteArray)(h:acts.length≤8):Fn G Er [.lst (acts.map .str)] (eSp (evSpc acts)):=by
 have h28:2 ^ acts.length≤2 ^ 8:=Nat.pow_le_pow_right (by omega) h;refine FnP.mk' Vo rfl rfl ?_;simp only [go_sem,↓reduceIte,↓Aa,NN,Oy (show acts.length≤62 by omega),Int.toNat_natCast];refine ⟨by omega,?_⟩;refine Ac (fun (i:Nat) σ=>i≤2 ^ acts.length∧∃a1 c1 z2 a3 c3 a4 c4,σ=⟨aT .undef 27 [(0,.lst (acts.map .str)),(2,.ptr 0 1 [] 0 0 0),(3,.ptr 2 1 [] 0 0 0),(11,I ((2 ^ acts.length:Nat):Int)),(12,I i)],
  [⟨1,0,.own 2 [.agg [.nils,.nils]]⟩,⟨a1,c1,.gone⟩,⟨1,z2,.own 2 [.agg [cellv .nils 1 ((upI i).map I),.own 1 (List.replicate acts.length (I 0))]]⟩,⟨a3,c3,.gone⟩,⟨a4,c4,.gone⟩,⟨0,0,.gone⟩],[]⟩) (fun i=>2 ^ acts.length-i) ?_ 0 ?_
 ·rintro i σ ⟨hi,a1,c1,z2,a3,c3,a4,c4,rfl⟩ N Q hQ hN;by_cases hlt:i<2 ^ acts.length
  ·simp only [go_sem,↓reduceIte,↓Aa,Ab hlt (by omega),Int.ofNat_lt,hlt,List.length_map,Nm];refine ⟨by omega,hN (i+1) _ (by omega) ⟨by omega,?_⟩⟩;simp only [go_sem,↓reduceIte,↓Aa,Yi,List.map_append,List.map_cons,List.map_nil];repeat apply Exists.intro
   rfl
  ·have hil:i=2 ^ acts.length:=by omega
   subst hil hQ;simp only [go_sem,↓reduceIte,↓Aa,Int.ofNat_lt,hlt,Pk (show acts.length≤1048576 by omega)];simp only [eSp,evSpc,eSt,List.map_cons,List.map_nil,List.map_replicate,frz]
 ·refine ⟨Nat.zero_le _,?_⟩;simp only [go_sem,↓reduceIte,↓Aa,upI,List.range_zero,List.map_nil];repeat apply Exists.intro
  rfl
theorem everyR_ok (acts:List ByteArray)(h:acts.length≤8):Fn G JP [.lst (acts.map .str)] (eSp (evSpc acts)):=by
 have h28:2 ^ acts.length≤2 ^ 8:=Nat.pow_le_pow_right (by omega) h;refine FnP.mk' Ac6 rfl rfl ?_;simp only [go_sem,↓reduceIte,↓Aa,Uw,Oy (show acts.length≤62 by omega),Int.toNat_natCast];refine Ac (fun (i:Nat) σ=>i≤2 ^ acts.length∧∃z1 a2 c2 a3 c3,σ=⟨aT .undef 33 [(0,.lst (acts.map .str)),(2,.ptr 0 1 [] 0 0 0),(3,.ptr 1 1 [] 0 0 0),(7,I ((2 ^ acts.length:Nat):Int)),(8,I i)],
  [⟨1,0,.own 2 [.agg [.nils,.nils]]⟩,⟨1,z1,.own 2 [.agg [cellv .nils 1 ((upI i).map I),.nils]]⟩,⟨a2,c2,.gone⟩,⟨a3,c3,.gone⟩,⟨0,0,.gone⟩,⟨0,0,.gone⟩,⟨0,0,.gone⟩,⟨0,0,.gone⟩],[]⟩) (fun i=>2 ^ acts.length-i) ?_ 0 ?_
 ·rintro i σ ⟨hi,z1,a2,c2,a3,c3,rfl⟩ N Q hQ hN;by_cases hlt:i<2 ^ acts.length
  ·simp only [go_sem,↓reduceIte,↓Aa,Ab hlt (by omega),Int.ofNat_lt,hlt,List.length_map,Nm];refine ⟨by omega,hN (i+1) _ (by omega) ⟨by omega,?_⟩⟩;simp only [go_sem,↓reduceIte,↓Aa,Yi,List.map_append,List.map_cons,List.map_nil];repeat apply Exists.intro
   rfl
  ·have hil:i=2 ^ acts.length:=by omega
   subst hil hQ;simp only [go_sem,↓reduceIte,↓Aa,Int.ofNat_lt,hlt];refine Ac (fun (i:Nat) σ=>i≤acts.length∧∃z1 a4 c4 a5 c5,σ=⟨aT .undef 33 [(0,.lst (acts.map .str)),(2,.ptr 0 1 [] 0 0 0),(3,.ptr 1 1 [] 0 0 0),(19,I acts.length),(20,I i)],
    [⟨1,0,.own 2 [.agg [.nils,.nils]]⟩,⟨1,z1,.own 2 [.agg [cellv .nils 1 ((upI (2 ^ acts.length)).map I),cellv .nils 1 (List.replicate i (I 0))]]⟩,⟨a2,c2,.gone⟩,⟨a3,c3,.gone⟩,⟨a4,c4,.gone⟩,⟨a5,c5,.gone⟩,⟨0,0,.gone⟩,⟨0,0,.gone⟩],[]⟩) (fun i=>acts.length-i) ?_ 0 ?_
   ·rintro i σ ⟨hi,z1,a4,c4,a5,c5,rfl⟩ N Q hQ hN;by_cases hlt2:i<acts.length
    ·simp only [go_sem,↓reduceIte,↓Aa,Ab hlt2 (by omega),Int.ofNat_lt,hlt2,List.length_replicate];refine ⟨by omega,hN (i+1) _ (by omega) ⟨by omega,?_⟩⟩;simp only [go_sem,↓reduceIte,↓Aa,List.replicate_succ'];repeat apply Exists.intro
     rfl
    ·have hil:i=acts.length:=by omega
     subst hil hQ;simp only [go_sem,↓reduceIte,↓Aa,Int.ofNat_lt,hlt2];refine ⟨by omega,?_⟩;simp only [eSp,evSpc,eSt,List.map_cons,List.map_nil,List.map_replicate,frz]
   ·refine ⟨Nat.zero_le _,?_⟩;simp only [go_sem,↓reduceIte,↓Aa,List.replicate_zero];repeat apply Exists.intro
    rfl
 ·refine ⟨Nat.zero_le _,?_⟩;simp only [go_sem,↓reduceIte,↓Aa,upI,List.range_zero,List.map_nil];repeat apply Exists.intro
  rfl
theorem ev_get {l:List ByteArray}{i:Nat}(hi:i<(evSpc l).S.length):(evSpc l).S[i]! = ⟨upI (2 ^ l.length),List.replicate l.length 0⟩:=by
 have:i=0:=by simpa [evSpc] using hi
 subst this;rfl
theorem AiY {n a:Nat}(h:a<n):(List.replicate n (0:Int))[a]! = 0:=by rw [getElem!_pos _ a (by simpa using h)];simp
theorem Oz {m:Nat}(hm:1≤m){l:List ByteArray}(h:actsOk l=true):SpcK m (evSpc l):=by
 refine ⟨h,by simp [evSpc],by simp only [evSpc,List.length_singleton];omega,fun i hi=>?_⟩;rw [ev_get hi];refine ⟨by simp [evSpc],fun j hj=>?_,fun j hj h0=>?_,fun a ha=>?_,fun j hj a ha hh=>?_⟩
 ·simp only [Nm] at hj;simp only [Wg hj,evSpc];omega
 ·simp only [Nm] at hj;simp only [Wg hj,Wg (show j-1<2 ^ l.length by omega)];omega
 ·simp only [evSpc] at ha ⊢;rw [AiY ha];simp
 ·simp only [evSpc] at ha ⊢;rw [AiY ha];omega
theorem Ahc {l:List ByteArray}(h:actsOk l=true):(trimA (evSpc l)).1=evSpc l:=by
 have hK:=Oz (m:=500) (by omega) h;have hl:(evSpc l).S.length=1:=rfl;have hno:∀k,¬Hol (evSpc l) k:=by
  intro k hk;refine hk.2 (fun _=>False) (fun x hx hd=>?_);rw [ev_get hx] at hd;have h2:0<2 ^ l.length:=Nat.two_pow_pos _;obtain ⟨a,_,_,hb,hF⟩:=hd 0 (by simp only [Nm];exact h2);exact hF
 have h0:(Cn (evSpc l))[0]! = false:=by
  cases hb:(Cn (evSpc l))[0]! with
  | false=>rfl
  | true=>exact absurd ((Cw (by rw [hl];omega)).1 hb) (hno 0)
 have hb:=hK.b hK.sz;have hO:ordOf (evSpc l) = [0]:=by
  have h1:=MY hb hK.s1;have h2:=JM hb hK.s1;have h3:=Lt hb hK.s1;generalize ordOf (evSpc l)=o at *;rw [hl] at h1
  match o,h1,h2,h3 with
  | [x],_,_,h3=>simp at h3;rw [h3]
 have hA:KD (evSpc l) 0=upI (2 ^ l.length):=by
  unfold KD;rw [if_neg (by rw [h0];simp)];unfold keptL;rw [ev_get (by rw [hl];omega)];refine List.filter_eq_self.2 (fun v _=>?_);rw [Bool.not_eq_true',decide_eq_false_iff_not];rintro ⟨a,_,_,_,hd⟩;exact hno _ (inB_holL.1 hd)
 have e0:(evSpc l).S[0]! = ⟨upI (2 ^ l.length),List.replicate l.length 0⟩:=rfl;have hX:(Hc (evSpc l) 0).X=List.replicate l.length 0:=by
  have hlen:=MG (s:=evSpc l) (x:=0);rw [e0] at hlen;apply List.ext_getElem hlen;intro a h1 h2;have ha:a<l.length:=by simpa using h2
  rw [←getElem!_pos _ a h1,Nb (by rw [e0];exact h2),hA,hO,e0];have hu:(usedN (upI (2 ^ l.length))).testBit a=true:=Do.2 ⟨((2 ^ a:Nat):Int),Af3.2 ⟨Int.natCast_nonneg _,Int.ofNat_lt.2 (Nat.pow_lt_pow_right (by omega) ha)⟩,by unfold hasA;rw [Int.toNat_natCast];exact Nat.testBit_two_pow_self⟩;rw [if_pos hu,AiY ha];simp [placeX]
 rw [trimA_f h0];show Spc.mk l ((ordOf (evSpc l)).map (Hc (evSpc l)))=evSpc l;rw [hO];show Spc.mk l [Stt.mk (KD (evSpc l) 0) (Hc (evSpc l) 0).X]=evSpc l;rw [hA,hX];rfl
open Classical in
noncomputable def JL (acts:List ByteArray)(l:List Spc):Int:=if (l.any fun s => !decide (CR s))=true then 30 else if (!actsOk acts||l.any fun s => !decide (s.acts=acts))=true then 10 else 0
theorem AaN (l:List ByteArray)(h8:8<l.length):FnT G C3 [.lst (l.map .str)] (Bo (actsOk l)):=by
 refine FnP.mk' Pm rfl rfl ?_;simp only [go_sem,↓reduceIte,↓Aa,Md];refine ⟨fun _=>?_,fun h=>absurd h (by omega)⟩;simp [actsOk];omega
theorem Ac7 (l:List ByteArray)(h8:8<l.length):FnT G Hn [.lst (l.map .str)] (Bo (actsOk l)):=by
 refine FnP.mk' X9 rfl rfl ?_;simp only [go_sem,↓reduceIte,↓Aa,SS];refine ⟨fun _=>?_,fun h=>absurd h (by omega)⟩;simp [actsOk];omega
section
variable {fr:Bool}{roots:List Nat}{b:Nat}{ss:List Nat}{σ:St}{k:AV→St→Prop}
theorem AbS {l:List ByteArray}:callT G C3 [.lst (l.map .str)] fr roots b ss σ k=k (Bo (actsOk l)) σ:=by
 by_cases h:l.length≤1048576
 ·exact AfW h
 ·exact (AaN l (by omega)).rule
theorem XT {l:List ByteArray}:callT G Hn [.lst (l.map .str)] fr roots b ss σ k=k (Bo (actsOk l)) σ:=by
 by_cases h:l.length≤1048576
 ·exact AcX h
 ·exact (Ac7 l (by omega)).rule
end
theorem Aij (s:Spc)(hz:SpSz s)(hI:SpI s):FnT G B5 [eSp s] (Bo (!@decide (CR s) (Classical.propDecidable _))):=by
 refine FnP.mk' KJ rfl rfl ?_;simp only [go_sem,↓reduceIte,↓Aa,KU,eSp,Ai6 hz hI]
theorem Ain (acts:List ByteArray)(ha:acts.length≤1048576)(s:Spc)(hz:SpSz s):FnT G B3 [eSp s,.pfro [.lst (acts.map .str)]] (Bo (!decide (s.acts=acts))):=by
 refine FnP.mk' K0 rfl rfl ?_;simp only [go_sem,↓reduceIte,↓Aa,KY,eSp,AiX hz.a ha]
theorem OS (acts:List ByteArray)(l:List Spc)(hl:l.length≤1048576)(hz:∀i<l.length,SpSz l[i]!∧SpI l[i]!):FnT G BR [.lst (acts.map .str),.lst (l.map eSp)] (I (JL acts l)):=by
 have c1:=MC l hl B5 [] (fun s => !@decide (CR s) (Classical.propDecidable _)) ⟨_,KJ,rfl⟩ (fun h=>rfl) (fun i hi=>Aij _ (hz i hi).1 (hz i hi).2);have r1:∀ {fr:Bool}{roots:List Nat}{b:Nat}{ss:List Nat}{σ:St}{k:AV→St→Prop},callT G Aj [.lst (l.map eSp),.fn B5 []] fr roots b ss σ k=k (Bo _) σ:=c1.rule;clear c1;refine FnP.mk' Sn rfl rfl ?_;unfold JL;rcases Bool.eq_false_or_eq_true (actsOk acts) with h|h
 ·have ha:=Au h;have c2:=MC l hl B3 [.pfro [.lst (acts.map .str)]] (fun s => !decide (s.acts=acts)) ⟨_,K0,rfl⟩ (fun h=>by simp only [go_sem,↓reduceIte,↓Aa]) (fun i hi=>Ain acts (by omega) _ (hz i hi).1);have r2:∀ {fr:Bool}{roots:List Nat}{b:Nat}{ss:List Nat}{σ:St}{k:AV→St→Prop},callT G Aj [.lst (l.map eSp),.fn B3 [.pfro [.lst (acts.map .str)]]] fr roots b ss σ k=k (Bo _) σ:=c2.rule;clear c2;generalize (l.any fun s => !@decide (CR s) (Classical.propDecidable _))=b1 at *;generalize (l.any fun s => !decide (s.acts=acts))=b2 at *;cases b1 with
  | true=>simp only [go_sem,↓reduceIte,↓Aa,EJ,r1]
  | false=>cases b2<;>simp only [go_sem,↓reduceIte,↓Aa,EJ,r1,r2,AbS,h]
 ·generalize (l.any fun s => !@decide (CR s) (Classical.propDecidable _))=b1 at *;cases b1 with
  | true=>simp only [go_sem,↓reduceIte,↓Aa,EJ,r1]
  | false=>simp only [go_sem,↓reduceIte,↓Aa,EJ,r1,AbS,h]
theorem AcH {α:Type}[Inhabited α]{l:List α}{q:α→Bool}{i:Nat}(hi:i<l.length)(h:q l[i]! = true):l.any q=true:=List.any_eq_true.2 ⟨_,AI hi,h⟩
theorem AfU {α:Type}[Inhabited α]{l:List α}{q:α→Bool}(h:∀i<l.length,q l[i]! = false):l.any q=false:=by
 refine List.any_eq_false.2 fun x hx=>?_;obtain ⟨j,hj,e⟩:=getAt hx;rw [←e,h j hj];simp
open Classical in
theorem Ye {acts:List ByteArray}{l:List Spc}(h:∀i<l.length,CR l[i]!):JL acts l=if (!actsOk acts||l.any fun s => !decide (s.acts=acts))=true then 10 else 0:=by
 unfold JL;rw [if_neg];rw [AfU (fun i hi=>by rw [decide_eq_true (h i hi)];rfl)];simp
open Classical in
theorem Ul {acts:List ByteArray}{l:List Spc}{i:Nat}(hi:i<l.length)(h:¬CR l[i]!):JL acts l=30:=by
 unfold JL;rw [if_pos (AcH hi (by rw [decide_eq_false h];rfl))]
theorem Rz {acts:List ByteArray}{l:List Spc}(h:JL acts l=0):actsOk acts=true∧∀i<l.length,CR l[i]!∧l[i]!.acts=acts:=by
 by_cases h1:∀i<l.length,CR l[i]!
 ·rw [Ye h1] at h;split at h
  ·omega
  ·rename_i h2;rw [Bool.not_eq_true,Bool.or_eq_false_iff] at h2;refine ⟨by simpa using h2.1,fun i hi=>⟨h1 i hi,?_⟩⟩;have:=List.any_eq_false.1 h2.2 _ (AI hi);simpa using this
 ·simp only [Classical.not_forall] at h1;obtain ⟨i,hi,hb⟩:=h1;rw [Ul hi hb] at h;omega
theorem ZX (acts:List ByteArray)(l:List Spc)(hl:l.length≤1048576)(hz:∀i<l.length,SpSz l[i]!∧SpI l[i]!):FnT G DO [.lst (acts.map .str),.lst (l.map eSp)] (I (JL acts l)):=by
 refine FnP.mk' Tl rfl rfl ?_;simp only [go_sem,↓reduceIte,↓Aa,MM];refine Ac (fun (i:Nat) σ=>i≤l.length∧(∀j<i,CR l[j]!)∧∃a c,σ=⟨aT .undef 34 [(0,.lst (acts.map .str)),(1,.lst (l.map eSp)),(9,.lst (l.map eSp)),(10,I l.length),(11,I i)],[⟨a,c,.gone⟩,⟨0,0,.gone⟩],[]⟩) (fun i=>l.length-i) ?_ 0 ?_
 ·rintro i σ ⟨hi,hall,a,c,rfl⟩ N Q hQ hN;by_cases hlt:i<l.length
  ·obtain ⟨hz1,hz2⟩:=hz i hlt;simp only [go_sem,↓reduceIte,↓Aa,eSp,Ab hlt (by omega),Int.ofNat_lt,hlt,Afu hz1];refine ⟨fun h=>?_,fun h=>hN (i+1) _ (by omega) ⟨by omega,Ae hall h,?_⟩⟩
   ·subst hQ;simp only [go_sem,↓reduceIte,↓Aa];rw [Ul hlt h]
   ·simp only [go_sem,↓reduceIte,↓Aa];repeat apply Exists.intro
    rfl
  ·have hil:i=l.length:=by omega
   subst hil hQ;rw [Ye hall];rcases Bool.eq_false_or_eq_true (actsOk acts) with h|h
   ·simp only [go_sem,↓reduceIte,↓Aa,Int.ofNat_lt,hlt,XT,h];have ha:=Au h;refine Ac (fun (i:Nat) σ=>i≤l.length∧(∀j<i,l[j]!.acts=acts)∧∃a1 c1,σ=⟨aT .undef 34 [(0,.lst (acts.map .str)),(22,.lst (l.map eSp)),(23,I l.length),(24,I i)],[⟨a,c,.gone⟩,⟨a1,c1,.gone⟩],[]⟩) (fun i=>l.length-i) ?_ 0 ?_
    ·rintro i σ ⟨hi,hal2,a1,c1,rfl⟩ N Q hQ hN;by_cases hlt2:i<l.length
     ·obtain ⟨hz1,hz2⟩:=hz i hlt2;simp only [go_sem,↓reduceIte,↓Aa,eSp,Ab hlt2 (by omega),Int.ofNat_lt,hlt2,Yb hz1.a (Nat.le_trans ha (by omega))];refine ⟨fun h=>?_,fun h=>hN (i+1) _ (by omega) ⟨by omega,Ae hal2 h,?_⟩⟩
      ·subst hQ;simp only [go_sem,↓reduceIte,↓Aa];rw [AcH (l:=l) (q:=fun s => !decide (s.acts=acts)) hlt2 (by simp only [h,decide_false,Bool.not_false]),Bool.or_true,if_pos rfl]
      ·simp only [go_sem,↓reduceIte,↓Aa];repeat apply Exists.intro
       rfl
     ·have hil:i=l.length:=by omega
      subst hil hQ;simp only [go_sem,↓reduceIte,↓Aa,Int.ofNat_lt,hlt2];rw [AfU (fun i hi=>by simp only [hal2 i hi,decide_true,Bool.not_true]),h];rfl
    ·refine ⟨by omega,by simp,?_⟩;simp only [go_sem,↓reduceIte,↓Aa];repeat apply Exists.intro
     rfl
   ·simp only [go_sem,↓reduceIte,↓Aa,Int.ofNat_lt,hlt,XT,h]
 ·refine ⟨by omega,by simp,?_⟩;simp only [go_sem,↓reduceIte,↓Aa];repeat apply Exists.intro
  rfl
theorem copies_ok (l:List Spc)(hl:l.length≤1048576)(hz:∀i<l.length,SpSz l[i]!):Fn G Du [.lst (l.map eSp)] (.lst (l.map eSp)):=by
 refine FnP.mk' T1 rfl rfl ?_;simp only [go_sem,↓reduceIte,↓Aa,NU];refine Ac (fun (i:Nat) σ=>i≤l.length∧∃a0 c0 a1 c1 a2 c2,σ=⟨aT .undef 19 [(3,Le .nils 2 2 a2 ((l.take i).map eSp)),(6,.lst (l.map eSp)),(7,I l.length),(8,I i)],[⟨a0,c0,.gone⟩,⟨a1,c1,.gone⟩,⟨a2,c2,MW 2 ((l.take i).map eSp)⟩],[]⟩) (fun i=>l.length-i) ?_ 0 ?_
 ·rintro i σ ⟨hi,a0,c0,a1,c1,a2,c2,rfl⟩ N Q hQ hN;by_cases hlt:i<l.length
  ·simp only [go_sem,↓reduceIte,↓Aa,eSp,Ab hlt (by omega),Int.ofNat_lt,hlt,spcCopy_r (hz i hlt)];refine ⟨by rw [List.length_take];omega,hN (i+1) _ (by omega) ⟨by omega,?_⟩⟩;simp only [go_sem,↓reduceIte,↓Aa,EX _ hlt,List.length_map,eSp];repeat apply Exists.intro
   rfl
  ·have hil:i=l.length:=by omega
   subst hil hQ;simp only [go_sem,↓reduceIte,↓Aa,Int.ofNat_lt,hlt,List.take_length,List.map_map];congr 1
 ·refine ⟨by omega,?_⟩;simp only [go_sem,↓reduceIte,↓Aa,List.take_zero,List.map_nil];repeat apply Exists.intro
  rfl
end Go.Mw
