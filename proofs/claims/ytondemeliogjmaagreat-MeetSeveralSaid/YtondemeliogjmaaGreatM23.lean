/- Trimming, as the program does it. -/
import Derived.Test.YtondemeliogjmaaGreatM22
set_option linter.unusedVariables false
set_option linter.unusedSimpArgs false
namespace Go.Mw
set_option maxRecDepth 100000
theorem left_ok (s:Spc):Fn G EC [eSp s] (.fn BS [.pfro [.lst (s.acts.map .str),.lst (s.S.map eSt)]]):=by
 refine FnP.mk' TI rfl rfl ?_;simp only [go_sem,↓reduceIte,↓Aa,NI,eSp]
theorem AfM {s:Spc}{roots:List Nat}{b:Nat}{ss:List Nat}{σ:St}{k:AV→St→Prop}:callT G EC [.agg [.lst (s.acts.map .str),.lst (s.S.map eSt)]] true roots b ss σ k=k (.fn BS [.pfro [.lst (s.acts.map .str),.lst (s.S.map eSt)]]) σ:=(left_ok s).rule
theorem Ah5 {ks:List Nat}{h:List Ob}:freeSites 14 ks h=Jk (ks.map (14 + ·)) 0 h:=by rw [LY,FA]
theorem Ac4 {t:List AV}:setPs [] [] t=t:=(rfl)
theorem YQ {p:Nat}{ps:List Nat}{v:AV}{vs t:List AV}:setPs (p::ps) (v::vs) t=setPs ps vs (t.set p v):=(rfl)
def tLp (t:List AV)(pend:Option Ex)(busy:Bool):Lp:={ base:=0,t,ps:=[26,27],kt:=rest 104 [1,2,3,4,5,6],ks:=[6,7,8,9],asg:=Cy,body:=CD,pend,busy }
noncomputable def Ys (s:Spc)(x:Nat):Stt:=⟨keptL s x,[]⟩
noncomputable def F4 (s:Spc)(z2 z3 a4 c4 z5:Nat)(i:Nat)(o6 o7 o8 o9:Ob):List Ob :=
 [⟨1,0,.own 2 [.agg [.lst (s.acts.map .str),.lst (s.S.map eSt)]]⟩,⟨1,0,.own 2 [.agg [.nils,.nils]]⟩,⟨1,z2,.own 2 [.agg [.lst (s.acts.map .str),cellv .nils 2 ((((ordOf s).take i).map (Ys s)).map rowS)]]⟩,
  ⟨1,z3,.own 1 [cellv .nils 1 (((ordOf s).take i).map eN)]⟩,⟨a4,c4,.gone⟩,⟨1,z5,.own 1 [.own 1 ((Df (ordOf s) s.S.length i).map eN)]⟩,o6,o7,o8,o9,⟨0,0,.gone⟩,⟨0,0,.gone⟩,⟨0,0,.gone⟩,⟨0,0,.gone⟩]
theorem Acp (s:Spc)(h:CR s)(h0:(Cn s)[0]! = false)(l:List (Nat×AV))(l25:AX (.tup []) 25 l = .fn BS [.pfro [.lst (s.acts.map .str),.lst (s.S.map eSt)]])
 (l1:AX (.tup []) 1 l = .ptr 0 1 [] 0 0 0) (l2:AX (.tup []) 2 l = .ptr 1 1 [] 0 0 0) (l3:AX (.tup []) 3 l = .nils) (l4:AX (.tup []) 4 l = .ptr 2 1 [] 0 0 0) (l5:AX (.tup []) 5 l = .ptr 3 1 [] 0 0 0) (l6:AX (.tup []) 6 l = .ptr 5 1 [] 0 0 0)
 {Q:Ex→St→Prop}(hQ:∀z2 z3 a4 c4 z5 o6 o7 o8 o9,Q .nrm ⟨aT (.tup []) 104 l,F4 s z2 z3 a4 c4 z5 (ordOf s).length o6 o7 o8 o9,[]⟩) :
 Wp G (.rngf (.t 25) [26,27] (rest 104 [1,2,3,4,5,6]) [6,7,8,9] Cy CD) 0 ⟨aT (.tup []) 104 l,F4 s 0 0 1 0 1 0 ⟨0,0,.gone⟩ ⟨0,0,.gone⟩ ⟨0,0,.gone⟩ ⟨0,0,.gone⟩,[]⟩ Q:=by
 have hz:=h.sz;have hb:=h.b hz;have h1:0<s.S.length:=h.s1;have h8:=Au h.acts;have hS:=h.s2;have hol:=VY h1;have hvi:=fun i=>NP (nx:=fun x=>(solidOf s).S[x]!.X) h1 (NT hb) i;have hsol:=PQ h h0;refine wp_rngf (g:=BS) (cs:=[.pfro [.lst (s.acts.map .str),.lst (s.S.map eSt)]]) (by simp only [go_sem,↓reduceIte,↓Aa,l25]) (Bs LN rfl ?_);rw [A6 (by simp)];have hrec:∀t pe bu,({ base:=0,t,ps:=[26,27],kt:=rest 104 [1,2,3,4,5,6],ks:=[6,7,8,9],asg:=Cy,body:=CD,pend:=pe,busy:=bu }:Lp)=tLp t pe bu:=fun _ _ _=>rfl;simp only [hrec];simp only [go_sem,↓reduceIte,↓Aa,JK,TY hb h.x8,hol,h0,F4,X0];refine ⟨by omega,by omega,h1,?_⟩;have hend:∀i,(bfsAt s.S.length (fun x=>(solidOf s).S[x]!.X) i).2.length=i→i=(ordOf s).length:=fun i hi=>by
  have:=AaE h1 (NT hb) hi;rw [show ordOf s=(bfsAt s.S.length (fun x=>(solidOf s).S[x]!.X) i).2 from this.symm];exact hi.symm
 have hpre:∀i,i≤s.S.length→(bfsAt s.S.length (fun x=>(solidOf s).S[x]!.X) i).2 <+: ordOf s:=fun i hi=>by
  have:=XF (n:=s.S.length) (nx:=fun x=>(solidOf s).S[x]!.X) (i:=i) (s.S.length-i);rw [show i+(s.S.length-i)=s.S.length by omega] at this;exact this
 have hbsucc:∀i,bfsAt s.S.length (fun x=>(solidOf s).S[x]!.X) (i+1)=if i<(bfsAt s.S.length (fun x=>(solidOf s).S[x]!.X) i).2.length then ((solidOf s).S[(bfsAt s.S.length (fun x=>(solidOf s).S[x]!.X) i).2[i]!]!.X).foldl visit (bfsAt s.S.length (fun x=>(solidOf s).S[x]!.X) i) else bfsAt s.S.length (fun x=>(solidOf s).S[x]!.X) i:=fun i=>rfl;have hond:=Ab8 hb h1;have holen:=MY hb h1;refine Ac (fun (i:Nat) σ=>i≤(bfsAt s.S.length (fun x=>(solidOf s).S[x]!.X) i).2.length∧∃z2 z3 a4 c4 z5 o6 o7 o8 o9 z16 a17 c17 z18 a19 c19 a20 c20 a21 c21 a22 c22 a23 c23 a24 c24,σ=⟨aT .undef 101 [(0,.yld 0),(1,.pfro [.lst (s.acts.map .str),.lst (s.S.map eSt)]),(3,.ptr 14 1 [] 0 0 0),(4,.ptr 16 1 [] 0 0 0),(5,.ptr 18 1 [] 0 0 0),(6,I i)],
  F4 s z2 z3 a4 c4 z5 i o6 o7 o8 o9++[⟨1,0,.own 1 [.lst ((Cn s).map Bo)]⟩,⟨1,0,.gone⟩,⟨1,z16,.own 1 [.own 1 ((bfsAt s.S.length (fun x=>(solidOf s).S[x]!.X) i).1.map Bo)]⟩,⟨a17,c17,.gone⟩,⟨1,z18,.own 1 [cellv .nils 1 ((bfsAt s.S.length (fun x=>(solidOf s).S[x]!.X) i).2.map eN)]⟩,⟨a19,c19,.gone⟩,⟨a20,c20,.gone⟩,⟨a21,c21,.gone⟩,⟨a22,c22,.gone⟩,⟨a23,c23,.gone⟩,⟨a24,c24,.gone⟩],[tLp (aT (.tup []) 104 l) none false]⟩) (fun i=>s.S.length+1-i) ?_ 0 ?_
 ·rintro i σ ⟨hi,z2,z3,a4,c4,z5,o6,o7,o8,o9,z16,a17,c17,z18,a19,c19,a20,c20,a21,c21,a22,c22,a23,c23,a24,c24,rfl⟩ N Qe hQe hN;have hV:=hvi i;have hVl:=hV.len;have hen:=hend i;have hpr:=hpre i (by omega);have hbs:=hbsucc i;have hso:=hsol i;generalize hp:bfsAt s.S.length (fun x=>(solidOf s).S[x]!.X) i=p at *;have hne:¬p.2.map eN = []:=by intro hc;rw [List.map_eq_nil_iff] at hc;have:=hV.pos;rw [hc] at this;simp at this
  by_cases hlt:i<p.2.length
  ·have hx:=hV.get hlt;have hh:=(hso _ (AI hlt)).2;rw [if_pos hlt] at hbs;have hxi:=LX hpr hlt;simp only [go_sem,↓reduceIte,↓Aa,F4,Int.ofNat_lt,hlt,hne,eN,hx,eSt];have hst:=h.st _ hx;have hsb:=hb.st _ hx;have hAl:=h.alen hx;have hkx:Ys s p.2[i]! = ⟨keptL s p.2[i]!,[]⟩:=rfl;have hsx:(solidOf s).S[p.2[i]!]!.X=onlyX s.S[p.2[i]!]! (usedN (keptL s p.2[i]!)) s.S[p.2[i]!]!.X.length:=by
    rw [EN hx];simp only [Kz,KD];rw [if_neg (by rw [hh];simp)]
   have hkne:=Wf h hx hh;have hku:∀m,usedN (keptP s p.2[i]! m)<2 ^ 8:=fun m=>MQ fun v hv=>by
    obtain ⟨j,hj,e⟩:=getAt (TT hv);have:=hst.a j hj;have h28:2 ^ s.acts.length≤2 ^ 8:=Nat.pow_le_pow_right (by omega) h8;rw [e] at this;omega
   have hks:=fun m hm=>@keptP_succ s p.2[i]! m hm;have hkl:=fun m=>@UB s p.2[i]! m;have hka:=@T8 s p.2[i]!;have hsxb:=NT hb _ hx;have hXlen:s.S[p.2[i]!]!.X.length=s.acts.length:=hst.len;generalize hxe:p.2[i]! = x at *;generalize hye:s.S[x]! = y at *;refine Ac (fun (m:Nat) σ=>m≤y.A.length∧∃a20 c20 a21 c21 a22 c22,σ=⟨aT .undef 101 [(0,.yld 0),(1,.pfro [.lst (s.acts.map .str),.lst (s.S.map eSt)]),(3,.ptr 14 1 [] 0 0 0),(4,.ptr 16 1 [] 0 0 0),(5,.ptr 18 1 [] 0 0 0),(6,I i),(7,.ptr 19 (a19+1) [] 0 0 0),(8,Le .nils 1 22 a22 ((keptP s x m).map I)),(9,I (usedN (keptP s x m):Nat)),(43,.lst (y.A.map I)),(44,I y.A.length),(45,I m)],
    F4 s z2 z3 a4 c4 z5 i o6 o7 o8 o9++[⟨1,0,.own 1 [.lst ((Cn s).map Bo)]⟩,⟨1,0,.gone⟩,⟨1,z16,.own 1 [.own 1 (p.1.map Bo)]⟩,⟨a17,c17,.gone⟩,⟨1,z18,.own 1 [cellv .nils 1 (p.2.map eN)]⟩,⟨a19+1,0,.own 2 [.agg [.lst (y.A.map I),.lst (y.X.map I)]]⟩,⟨a20,c20,.gone⟩,⟨a21,c21,.gone⟩,⟨a22,c22,MW 1 ((keptP s x m).map I)⟩,⟨a23,c23,.gone⟩,⟨a24,c24,.gone⟩],[tLp (aT (.tup []) 104 l) none false]⟩) (fun m=>y.A.length-m) ?_ 0 ?_
   ·rintro m σ ⟨hm,a20,c20,a21,c21,a22,c22,rfl⟩ N2 Q2 hQ2 hN2;by_cases hlt2:m<y.A.length
    ·obtain ⟨t,ht,htl⟩:=hsb.nat hlt2;have hd:=Aeo hst hlt2 (P:=inB (Cn s));have ht8:t<2 ^ 8:=by
      have:=(hst.a m hlt2).2;have h28:2 ^ s.acts.length≤2 ^ 8:=Nat.pow_le_pow_right (by omega) h8;omega
     have hmu:=hku m;have hml:=hkl m;have hms:=hks m hlt2;simp only [go_sem,↓reduceIte,↓Aa,F4,Int.ofNat_lt,hlt2,ht,Ab hlt2 (by omega)];refine AeH t htl (by simp only [go_sem,↓reduceIte,↓Aa]) (fun a hh'=>hh'=F4 s z2 z3 a4 c4 z5 i o6 o7 o8 o9++[⟨1,0,.own 1 [.lst ((Cn s).map Bo)]⟩,⟨1,0,.gone⟩,⟨1,z16,.own 1 [.own 1 (p.1.map Bo)]⟩,⟨a17,c17,.gone⟩,⟨1,z18,.own 1 [cellv .nils 1 (p.2.map eN)]⟩,⟨a19+1,0,.own 2 [.agg [.lst (y.A.map I),.lst (y.X.map I)]]⟩,⟨a20+1,0,.own 1 [Bo (decide (∀b<a,t.testBit b=true→(Cn s)[y.X[b]!.toNat]! = false))]⟩,⟨a21,c21,.gone⟩,⟨a22,c22,MW 1 ((keptP s x m).map I)⟩,⟨a23,c23,.gone⟩,⟨a24,c24,.gone⟩]) ?_ ?_ ?_ ?_ ?_
     ·rintro a hh' rfl;simp only [F4,List.length_append,List.length_cons,List.length_nil]
     ·simp only [go_sem,↓reduceIte,↓Aa,F4];rw [decide_eq_true (fun b hb=>absurd hb (by omega))]
     ·rintro a hh' hbit rfl;rw [show decide (∀b<a+1,t.testBit b=true→(Cn s)[y.X[b]!.toNat]! = false)=decide (∀b<a,t.testBit b=true→(Cn s)[y.X[b]!.toNat]! = false) from
       decide_eq_decide.2 ⟨fun g b hb=>g b (by omega),fun g=>Ae g (fun g2=>by rw [hbit] at g2;cases g2)⟩]
     ·rintro a hh' hbit ha62 rfl;have han:a<s.acts.length:=Bz (n:=t) (by have:=hst.a m hlt2;rw [ht] at this;omega) hbit;have hX0:=hst.has m hlt2 a han (by rw [ht];simpa [hasA] using hbit);have hXn:=hst.x a han;have hhl:(Cn s).length=s.S.length:=by simp [Cn]
      simp only [go_sem,↓reduceIte,↓Aa,F4,Kp,Kq];refine ⟨fun hf=>⟨by omega,hX0,by omega,?_⟩,fun hf=>?_⟩
      ·have e:decide (∀b<a+1,t.testBit b=true→(Cn s)[y.X[b]!.toNat]! = false) = !(Cn s)[y.X[a]!.toNat]!:=by
        cases hv:(Cn s)[y.X[a]!.toNat]! with
        | true=>exact decide_eq_false (fun g=>by have:=g a (by omega) hbit;rw [hv] at this;cases this)
        | false=>exact decide_eq_true (Ae hf (fun _=>hv))
       rw [e]
      ·rw [show decide (∀b<a+1,t.testBit b=true→(Cn s)[y.X[b]!.toNat]! = false)=false from decide_eq_false (fun g=>hf (fun b hb=>g b (by omega)))]
     ·rintro a hh' hlta rfl;have hfd:(∀b<a,t.testBit b=true→(Cn s)[y.X[b]!.toNat]! = false)↔¬Dies y (inB (Cn s)) (t:Int):=by
       rw [ht] at hd;rw [hd];constructor
       ·rintro g ⟨b,hb1,hb2⟩;have hb3:t.testBit b=true:=by simpa [hasA] using hb1
        have:=g b (Bz hlta hb3) hb3;unfold inB at hb2;rw [hb2] at this;cases this
       ·intro g b hb hb1;cases hv:(Cn s)[y.X[b]!.toNat]! with
        | false=>rfl
        | true=>exact absurd ⟨b,by simpa [hasA] using hb1,hv⟩ g
      rw [ht] at hms;simp only [go_sem,↓reduceIte,↓Aa,F4,Ab hlt2 (show y.A.length≤1000000000 by omega)];refine ⟨fun hf=>⟨by omega,hN2 (m+1) _ (by omega) ⟨by omega,?_⟩⟩,fun hf=>hN2 (m+1) _ (by omega) ⟨by omega,?_⟩⟩
      ·rw [if_neg (hfd.1 hf)] at hms;simp only [go_sem,↓reduceIte,↓Aa,F4,hms,Jw,Int.toNat_natCast,Ng (show usedN (keptP s x m)<2 ^ 63 by omega) (show t<2 ^ 63 by omega),List.map_append,List.map_cons,List.map_nil];repeat apply Exists.intro
       rfl
      ·rw [if_pos (Classical.not_not.1 (fun g=>hf (hfd.2 g)))] at hms;simp only [go_sem,↓reduceIte,↓Aa,F4,hms];repeat apply Exists.intro
       rfl
    ·have hml:m=y.A.length:=by omega
     subst hml hQ2;have hku2:=hku y.A.length;rw [hka] at hku2 ⊢;simp only [go_sem,↓reduceIte,↓Aa,F4,Int.ofNat_lt,hlt2];have hkm:¬(keptL s x).map I = []:=by intro hc;rw [List.map_eq_nil_iff] at hc;exact hkne hc
     have hVa:∀a,VI s.S.length ((onlyX y (usedN (keptL s x)) a).foldl visit p):=by
      intro a;induction a with
      | zero=>exact hV
      | succ a ih =>
        rw [onlyX_vis];split
        ·rename_i hu;refine ih.visit ?_;obtain ⟨v,hv,hbv⟩:=Do.1 hu;obtain ⟨j,hj,e⟩:=getAt (List.mem_filter.1 (show v∈s.S[x]!.A.filter _ from hv)).1;rw [hye] at hj e;have han:a<s.acts.length:=Bz (n:=v.toNat) (by have:=hst.a j hj;rw [e] at this;omega) hbv;exact (hst.x a han).2
        ·exact ih
     refine AeH (usedN (keptL s x)) (by omega) (by simp only [go_sem,↓reduceIte,↓Aa]) (fun a hh'=>∃z16 z18 o23 a24 c24,hh'=F4 s z2 z3 a4 c4 z5 i o6 o7 o8 o9++[⟨1,0,.own 1 [.lst ((Cn s).map Bo)]⟩,⟨1,0,.gone⟩,⟨1,z16,.own 1 [.own 1 (((onlyX y (usedN (keptL s x)) a).foldl visit p).1.map Bo)]⟩,⟨a17,c17,.gone⟩,⟨1,z18,.own 1 [cellv .nils 1 (((onlyX y (usedN (keptL s x)) a).foldl visit p).2.map eN)]⟩,⟨a19+1,0,.own 2 [.agg [.lst (y.A.map I),.lst (y.X.map I)]]⟩,⟨a20,c20,.gone⟩,⟨a21,c21,.gone⟩,⟨a22,c22,MW 1 ((keptL s x).map I)⟩,o23,⟨a24,c24,.gone⟩]) ?_ ?_ ?_ ?_ ?_
     ·rintro a hh' ⟨_,_,_,_,_,rfl⟩;simp only [F4,List.length_append,List.length_cons,List.length_nil]
     ·refine ⟨z16,z18,⟨a23,c23,.gone⟩,a24,c24,?_⟩;simp only [go_sem,↓reduceIte,↓Aa,F4,onlyX,List.range_zero,List.map_nil,List.foldl_nil]
     ·rintro a hh' hbit ⟨z16,z18,o23,a24,c24,rfl⟩;refine ⟨z16,z18,o23,a24,c24,?_⟩;rw [onlyX_vis,if_neg (by rw [hbit];simp)]
     ·rintro a hh' hbit ha62 ⟨z16,z18,o23,a24,c24,rfl⟩;have hVx:=hVa a;have hVy:=@onlyX_vis y (usedN (keptL s x)) a p;rw [if_pos hbit] at hVy;generalize (onlyX y (usedN (keptL s x)) a).foldl visit p=w at *;obtain ⟨v,hv,hbv⟩:=Do.1 hbit;obtain ⟨j,hj,e⟩:=getAt (List.mem_filter.1 (show v∈s.S[x]!.A.filter _ from hv)).1;rw [hye] at hj e;have han:a<s.acts.length:=Bz (n:=v.toNat) (by have:=hst.a j hj;rw [e] at this;omega) hbv;have hX0:=hst.has j hj a han (by rw [e];exact hbv);have hXn:=hst.x a han;obtain ⟨k,hk⟩:∃k:Nat,y.X[a]! = k:=⟨y.X[a]!.toNat,by omega⟩;have hkn:k<s.S.length:=by omega
      have hkw:k<w.1.length:=by rw [hVx.l];exact hkn
      have haX:a<y.X.length:=by omega
      have hvis:visit w (k:Int)=if w.1[k]! = false then (w.1.set k true,w.2++[k]) else w:=by
       unfold visit;rw [Int.toNat_natCast];by_cases hf:w.1[k]! = false
       ·rw [if_pos ⟨by omega,hf⟩,if_pos hf]
       ·rw [if_neg (fun g=>hf g.2),if_neg hf]
      rw [hk,hvis] at hVy;have hwl:=hVx.len;simp only [go_sem,↓reduceIte,↓Aa,F4,Ks,Kr,Ah5,haX,hk,hkw,J9];refine ⟨by omega,fun hf=>⟨by omega,by omega,?_⟩,fun hf=>?_⟩
      ·rw [if_pos hf] at hVy;simp only [hVy,List.map_append,List.map_cons,List.map_nil,eN,cellv_app];repeat apply Exists.intro
       rfl
      ·rw [if_neg (by rw [hf];simp)] at hVy;simp only [hVy];repeat apply Exists.intro
       rfl
     ·rintro a hh' hlta ⟨z16,z18,o23,a24,c24,rfl⟩;have hVx:=hVa a;have hpx:=FF (onlyX y (usedN (keptL s x)) a) (p:=p);have hany:(onlyX y (usedN (keptL s x)) a).foldl visit p=((solidOf s).S[x]!.X).foldl visit p:=by
       rw [hsx];refine Abx hlta ?_;rw [hXlen];exact MQ fun v hv=>by
        obtain ⟨j,hj,e⟩:=getAt (List.mem_filter.1 (show v∈s.S[x]!.A.filter _ from hv)).1;rw [hye] at hj e;have:=hst.a j hj;rw [e] at this;omega
      rw [←hany] at hbs;generalize (onlyX y (usedN (keptL s x)) a).foldl visit p=w at *;have hwl:=hVx.len;have hpl:=hpx.length_le;have hiw:i<w.2.length:=by omega
      have hwi:w.2[i]! = x:=by rw [LX hpx hlt];exact hxe
      have hnw:¬w.2.map eN = []:=by intro hc;rw [List.map_eq_nil_iff] at hc;rw [hc] at hiw;simp at hiw
      simp only [go_sem,↓reduceIte,↓Aa,F4,hnw,hkm,hiw,hwi,eN];refine ⟨by omega,?_⟩;refine Af0 (lp:=tLp (aT (.tup []) 104 l) none false) rfl rfl rfl rfl ?_;have hpll:=@Em (ordOf s) s.S.length i;have hio:i<(ordOf s).length:=by have:=hpr.length_le;omega
      have hps:=Q7 (n:=s.S.length) hond hio;have hoi:(ordOf s)[i]! = x:=by rw [hxi]
      rw [hoi] at hps;have htl:(List.take i (ordOf s)).length=i:=by rw [List.length_take];omega
      simp only [go_sem,↓reduceIte,↓Aa,YQ,Ac4,tLp,Cy,CD,hpll,hx,XH,hps,eN,L9,Option.isNone_none,List.length_map,htl,l1,l2,l3,l4,l5,l6];have hiw2:IntKind.i64.wrap ((i:Int)+1)=((i+1:Nat):Int):=by rw [As]<;>omega
      refine ⟨by omega,by omega,by omega,hN (i+1) _ (by omega) ⟨by rw [hbs];omega,?_⟩⟩;have hto:List.take (i+1) (ordOf s)=List.take i (ordOf s)++[x]:=by rw [List.take_succ_eq_append_getElem hio,←hoi,getElem!_pos _ i hio]
      rw [hbs];simp only [go_sem,↓reduceIte,↓Aa,F4,hiw2,hto,List.map_append,List.map_cons,List.map_nil,Ys,rowS,eN];repeat apply Exists.intro
      rfl
   ·refine ⟨by omega,?_⟩;have hk0:keptP s x 0 = []:=List.eq_nil_of_length_eq_zero (by have:=hkl 0;omega);simp only [go_sem,↓reduceIte,↓Aa,F4,hk0,usedN,List.foldl_nil,List.map_nil];repeat apply Exists.intro
    rfl
  ·have hil:i=p.2.length:=by omega
   have hen2:=hen hil.symm;subst hQe;simp only [go_sem,↓reduceIte,↓Aa,F4,Int.ofNat_lt,hlt,hne,List.length_map];refine ⟨.nrm,rfl,?_⟩;have:=hQ z2 z3 a4 c4 z5 o6 o7 o8 o9;rw [←hen2] at this;exact this
 ·refine ⟨by simp [bfsAt],?_⟩;simp only [go_sem,↓reduceIte,↓Aa,F4,bfsAt,List.map_cons,List.map_nil,eN,List.take_zero,Em];repeat apply Exists.intro
  rfl
noncomputable def rcell (s:Spc)(i j:Nat):AV:=if j<i then .agg [cellv .nils 1 ((keptL s (ordOf s)[j]!).map I),.own 1 ((Hc s (ordOf s)[j]!).X.map I)] else .agg [cellv .nils 1 ((keptL s (ordOf s)[j]!).map I),.nils]
theorem ZW {s:Spc}{i:Nat}:rcell s i i = .agg [cellv .nils 1 ((keptL s (ordOf s)[i]!).map I),.nils]:=by simp [rcell]
theorem AcG {s:Spc}{n i:Nat}:((List.range n).map (rcell s i)).set i (.agg [cellv .nils 1 ((keptL s (ordOf s)[i]!).map I),.own 1 ((Hc s (ordOf s)[i]!).X.map I)])=(List.range n).map (rcell s (i+1)):=by
 apply List.ext_getElem?;intro j;rw [List.getElem?_set];by_cases h:i=j
 ·subst h;by_cases hl:i<n<;>simp [hl,rcell]
 ·by_cases hl:j<n
  ·have e:(j<i)=(j<i+1):=propext ⟨fun _=>by omega,fun _=>by omega⟩;simp [h,hl,rcell,e]
  ·simp [h,hl]
theorem Pn {s:Spc}:(((ordOf s).take (ordOf s).length).map (Ys s)).map rowS=(List.range (ordOf s).length).map (rcell s 0):=by
 rw [List.take_length];apply List.ext_getElem (by simp);intro j h1 h2;simp at h1;simp [rcell,rowS,Ys,cellv_nil,h1]
theorem UD {s:Spc}:((ordOf s).map (Ys s)).map rowS=(List.range (ordOf s).length).map (rcell s 0):=by
 rw [←Pn,List.take_length]
theorem Ade {s:Spc}(hA:∀x∈ordOf s,KD s x=keptL s x):((List.range (ordOf s).length).map (rcell s (ordOf s).length)).map frz=(Ao s).S.map eSt:=by
 have h:∀l:List Int,(l.map I).map frz=l.map I:=fun l=>by rw [List.map_map];rfl
 apply List.ext_getElem (by simp [Ao]);intro j h1 h2;simp at h1;have e:=hA (ordOf s)[j]! (AI h1);rw [List.getElem_map,List.getElem_map,List.getElem_range,rcell,if_pos h1];simp only [Ao,List.getElem_map];rw [←getElem!_pos (ordOf s) j h1];simp only [go_sem,↓reduceIte,↓Aa,h,eSt,Hc,Kz,e]
def LB (l:List Nat)(y:Stt)(u n a:Nat):List Int:=(List.range n).map fun b=>if b<a∧u.testBit b=true then placeX l y.X[b]! else -1
theorem UU {l:List Nat}{y:Stt}{u n a:Nat}:(LB l y u n a).length=n:=by simp [LB]
theorem Yw {l:List Nat}{y:Stt}{u n:Nat}:LB l y u n 0=List.replicate n (-1):=by
 apply List.ext_getElem (by simp [LB]);intro j h1 h2;simp [LB]
theorem Y4 {l:List Nat}{y:Stt}{u n a:Nat}(h:u.testBit a=false):LB l y u n (a+1)=LB l y u n a:=by
 unfold LB;refine List.map_congr_left (fun b _=>?_);by_cases hb:b<a
 ·have:b<a+1:=by omega
  simp [hb,this]
 ·by_cases e:b=a
  ·subst e;simp [h]
  ·have:¬b<a+1:=by omega
   simp [hb,this]
theorem AaM {l:List Nat}{y:Stt}{u n a:Nat}(h:u.testBit a=true):(LB l y u n a).set a (placeX l y.X[a]!)=LB l y u n (a+1):=by
 apply List.ext_getElem?;intro b;rw [List.getElem?_set,UU];have e:∀ {c},(LB l y u n c)[b]? = if b<n then some (if b<c∧u.testBit b=true then placeX l y.X[b]! else -1) else none:=fun {c}=>by
  by_cases hb:b<n<;>simp [LB,hb]
 rw [e,e];by_cases hab:a=b
 ·subst hab;by_cases hn:a<n<;>simp [hn,h]
 ·have:(b<a)=(b<a+1):=propext ⟨fun _=>by omega,fun _=>by omega⟩;simp [hab,this]
theorem AaQ {l:List Nat}{y:Stt}{u n a:Nat}(h:u<2 ^ a)(hX:y.X.length=n):LB l y u n a=(onlyX y u y.X.length).map (placeX l):=by
 rw [hX];unfold LB onlyX;rw [List.map_map];refine List.map_congr_left (fun b hb=>?_);simp only [Function.comp];by_cases hu:u.testBit b=true
 ·rw [if_pos ⟨Bz h hu,hu⟩,if_pos hu]
 ·rw [if_neg (fun g=>hu g.2),if_neg hu];simp [placeX]
theorem Zz (s:Spc)(h:CR s):Fn G A0 [eSp s] (.tup [eSp (trimA s).1,.lst ((trimA s).2.map eN)]):=by
 have hz:=h.sz;have hb:=h.b hz;have h1:0<s.S.length:=h.s1;have h8:=Au h.acts;have hS:=h.s2;have hol:=VY h1;cases h0:(Cn s)[0]! with
 | true =>
   have e:trimA s=(Bl s.acts,[]):=by unfold trimA;rw [if_pos h0]
   rw [e];refine FnP.mk' KG rfl rfl ?_;simp only [go_sem,↓reduceIte,↓Aa,HR,eSp,Pk (show s.acts.length≤1048576 by omega),AfM];refine ⟨by omega,?_⟩;refine wp_rngf (g:=BS) (cs:=[.pfro [.lst (s.acts.map .str),.lst (s.S.map eSt)]]) (by simp only [go_sem,↓reduceIte,↓Aa]) (Bs LN rfl ?_);rw [A6 (by simp)];simp only [go_sem,↓reduceIte,↓Aa,JK,TY hb h.x8,hol,h0];refine ⟨.nrm,rfl,?_⟩;simp only [go_sem,↓reduceIte,↓Aa,Abw h8,eSp]
 | false =>
   have e:trimA s=(Ao s,ordOf s):=by unfold trimA;rw [if_neg (by rw [h0];simp)]
   rw [e];refine FnP.mk' KG rfl rfl ?_;simp only [go_sem,↓reduceIte,↓Aa,HR,eSp,Pk (show s.acts.length≤1048576 by omega),AfM];refine ⟨by omega,?_⟩;have hpl0:(Df (ordOf s) s.S.length 0).map eN=List.replicate s.S.length (AV.int .i64 0):=by
    apply List.ext_getElem (by simp [Df]);intro j h1 h2;simp [Df,eN]
   have hloop:=Acp s h h0;simp only [F4,hpl0,List.take_zero,List.map_nil,cellv_nil] at hloop;refine hloop _ rfl rfl rfl rfl rfl rfl rfl (fun z2 z3 a4 c4 z5 o6 o7 o8 o9=>?_);have hop:=JM hb h1;have holen:=MY hb h1;have hond:=Ab8 hb h1;have hne:¬(ordOf s).map eN = []:=by intro hc;rw [List.map_eq_nil_iff] at hc;rw [hc] at hop;simp at hop
   have hlenz:¬((((ordOf s).length:Nat):Int)=0):=by omega
   have holt:∀x∈ordOf s,x<s.S.length∧(Cn s)[x]! = false:=PQ h h0 s.S.length;have hcl:=Li hb h1;have hsA:∀x∈ordOf s,KD s x=keptL s x:=fun x hx=>by unfold KD;rw [if_neg (by rw [(holt x hx).2];simp)]
   have hrow0:cellv .nils 2 ((List.range (ordOf s).length).map (rcell s 0)) = .own 2 ((List.range (ordOf s).length).map (rcell s 0)):=by
    obtain ⟨n,hn⟩:∃n,(ordOf s).length=n+1:=⟨(ordOf s).length-1,by omega⟩;rw [hn,List.range_succ,List.map_append,List.map_cons,List.map_nil,cellv_app]
   have hcel:∀v:List AV,¬v = []→cellv .nils 1 v = .own 1 v:=fun v hv=>by
    cases v with
    | nil=>exact absurd rfl hv
    | cons a r=>rfl
   have hbeq:((((ordOf s).length:Nat):Int)==0)=false:=by simp only [beq_eq_false_iff_ne];exact hlenz
   simp only [go_sem,↓reduceIte,↓Aa,Pn,UD,List.take_length,hne,hrow0,List.length_map,hbeq];refine Ac (fun (i:Nat) σ=>i≤(ordOf s).length∧∃z2 z5 a10 c10 a11 c11 a12 c12 a13 c13,σ=⟨aT .undef 104 [(1,.ptr 0 1 [] 0 0 0),(2,.ptr 1 1 [] 0 0 0),(3,.nils),(4,.ptr 2 1 [] 0 0 0),(5,.ptr 3 1 [] 0 0 0),(6,.ptr 5 1 [] 0 0 0),(50,OA .nils 1 3 1 [(0,0)] z3 ((ordOf s).map eN)),(51,I (ordOf s).length),(52,I i)],
    [⟨1,0,.own 2 [.agg [.lst (s.acts.map .str),.lst (s.S.map eSt)]]⟩,⟨1,0,.own 2 [.agg [.nils,.nils]]⟩,⟨1,z2,.own 2 [.agg [.lst (s.acts.map .str),.own 2 ((List.range (ordOf s).length).map (rcell s i))]]⟩,
     ⟨1,z3,.own 1 [cellv .nils 1 ((ordOf s).map eN)]⟩,⟨a4,c4,.gone⟩,⟨1,z5,.own 1 [.own 1 ((Df (ordOf s) s.S.length (ordOf s).length).map eN)]⟩,o6,o7,o8,o9,⟨a10,c10,.gone⟩,⟨a11,c11,.gone⟩,⟨a12,c12,.gone⟩,⟨a13,c13,.gone⟩],[]⟩) (fun i=>(ordOf s).length-i) ?_ 0 ?_
   ·rintro i σ ⟨hi,z2,z5,a10,c10,a11,c11,a12,c12,a13,c13,rfl⟩ N Q hQ hN;by_cases hlt:i<(ordOf s).length
    ·have hmem:=AI hlt;obtain ⟨hx,hh⟩:=holt _ hmem;have hst:=h.st _ hx;have hAl:=h.alen hx;have hkne:=Wf h hx hh;have hkm:¬(keptL s (ordOf s)[i]!).map I = []:=by intro hc;rw [List.map_eq_nil_iff] at hc;exact hkne hc
     have hkl:(keptL s (ordOf s)[i]!).length≤256:=Nat.le_trans (List.length_filter_le _ _) hAl;have hrs:=@ZW s i;have hrset:=@AcG s (ordOf s).length i;simp only [go_sem,↓reduceIte,↓Aa,Int.ofNat_lt,hlt,hne,eN,List.length_range,PP hlt,hrs,hkm];have hxX:=hst.len;have hclx:=hcl _ hmem;rw [EN hx] at hclx;have htS:(Hc s (ordOf s)[i]!).X=(onlyX s.S[(ordOf s)[i]!]! (usedN (keptL s (ordOf s)[i]!)) s.S[(ordOf s)[i]!]!.X.length).map (placeX (ordOf s)):=by
      simp only [Hc,Kz];rw [hsA _ hmem]
     have hsolX:(Kz s (ordOf s)[i]!).X=onlyX s.S[(ordOf s)[i]!]! (usedN (keptL s (ordOf s)[i]!)) s.S[(ordOf s)[i]!]!.X.length:=by
      simp only [Kz];rw [hsA _ hmem]
     have hkm2:∀v∈keptL s (ordOf s)[i]!,v∈s.S[(ordOf s)[i]!]!.A:=fun v hv=>(List.mem_filter.1 hv).1;generalize hxe:(ordOf s)[i]! = x at *;generalize hye:s.S[x]! = y at *;have h28:2 ^ s.acts.length≤2 ^ 8:=Nat.pow_le_pow_right (by omega) h8;have hkb:∀v∈keptL s x,0≤v∧v.toNat<2 ^ 8:=fun v hv=>by
      obtain ⟨j,hj,e⟩:=getAt (hkm2 v hv);have:=hst.a j hj;rw [e] at this;omega
     have hul:∀m,usedN ((keptL s x).take m)<2 ^ 8:=fun m=>MQ fun v hv=>(hkb v (List.mem_of_mem_take hv)).2;refine Ac (fun (m:Nat) σ=>m≤(keptL s x).length∧σ=⟨aT .undef 104 [(1,.ptr 0 1 [] 0 0 0),(2,.ptr 1 1 [] 0 0 0),(3,.nils),(4,.ptr 2 1 [] 0 0 0),(5,.ptr 3 1 [] 0 0 0),(6,.ptr 5 1 [] 0 0 0),(9,I i),(10,.ptr 10 (a10+1) [] 0 0 0),(11,I (usedN ((keptL s x).take m):Nat)),(50,OA .nils 1 3 1 [(0,0)] z3 ((ordOf s).map eN)),(51,I (ordOf s).length),(52,I i),(62,OA .nils 1 2 1 [(0,1),(i,0)] z2 ((keptL s x).map I)),(63,I (keptL s x).length),(64,I m)],
      [⟨1,0,.own 2 [.agg [.lst (s.acts.map .str),.lst (s.S.map eSt)]]⟩,⟨1,0,.own 2 [.agg [.nils,.nils]]⟩,⟨1,z2,.own 2 [.agg [.lst (s.acts.map .str),.own 2 ((List.range (ordOf s).length).map (rcell s i))]]⟩,
      ⟨1,z3,.own 1 [cellv .nils 1 ((ordOf s).map eN)]⟩,⟨a4,c4,.gone⟩,⟨1,z5,.own 1 [.own 1 ((Df (ordOf s) s.S.length (ordOf s).length).map eN)]⟩,o6,o7,o8,o9,⟨a10+1,0,.own 1 [I x]⟩,⟨a11,c11,.gone⟩,⟨a12,c12,.gone⟩,⟨a13,c13,.gone⟩],[]⟩) (fun m=>(keptL s x).length-m) ?_ 0 ?_
     ·rintro m σ ⟨hm,rfl⟩ N2 Q2 hQ2 hN2;by_cases hlt2:m<(keptL s x).length
      ·have hv:=hkb _ (AI hlt2);obtain ⟨t,ht⟩:∃t:Nat,(keptL s x)[m]! = t:=⟨(keptL s x)[m]!.toNat,by omega⟩;have hu1:=hul m;rw [ht,Int.toNat_natCast] at hv;simp only [go_sem,↓reduceIte,↓Aa,Int.ofNat_lt,hlt2,hrs,hkm,List.length_range,PP hlt,hlt,ht,Ab hlt2 (by omega),Ng (show usedN ((keptL s x).take m)<2 ^ 63 by omega) (show t<2 ^ 63 by omega)];refine hN2 (m+1) _ (by omega) ⟨by omega,?_⟩;rw [List.take_succ_eq_append_getElem hlt2,Jw,←getElem!_pos (keptL s x) m hlt2,ht,Int.toNat_natCast];simp only [go_sem,↓reduceIte,↓Aa]
      ·have hml:m=(keptL s x).length:=by omega
       subst hml hQ2;have hu1:=hul (keptL s x).length;rw [List.take_length] at hu1 ⊢;simp only [go_sem,↓reduceIte,↓Aa,Int.ofNat_lt,hlt2,hkm,Agn h8];have hub:∀a,(usedN (keptL s x)).testBit a=true→a<s.acts.length∧0≤y.X[a]!∧y.X[a]! < (s.S.length:Int)∧y.X[a]!.toNat∈ordOf s:=fun a ha=>by
        obtain ⟨v,hv,hbv⟩:=Do.1 ha;obtain ⟨j,hj,e⟩:=getAt (hkm2 v hv);have han:a<s.acts.length:=Bz (n:=v.toNat) (by have:=hst.a j hj;rw [e] at this;omega) hbv;have hX0:=hst.has j hj a han (by rw [e];exact hbv);refine ⟨han,hX0,(hst.x a han).2,hclx _ ?_ hX0⟩;rw [hsolX];have:(onlyX y (usedN (keptL s x)) y.X.length)[a]!∈onlyX y (usedN (keptL s x)) y.X.length:=AI (by rw [Dp];omega);rw [Ms (by omega),if_pos ha] at this;exact this
       have hr0:List.replicate s.acts.length (AV.int .i64 (-1))=(LB (ordOf s) y (usedN (keptL s x)) s.acts.length 0).map I:=by rw [Yw,List.map_replicate]
       rw [hr0];refine AeH (usedN (keptL s x)) (by omega) (by simp only [go_sem,↓reduceIte,↓Aa]) (fun a hh'=>hh' = [⟨1,0,.own 2 [.agg [.lst (s.acts.map .str),.lst (s.S.map eSt)]]⟩,⟨1,0,.own 2 [.agg [.nils,.nils]]⟩,⟨1,z2,.own 2 [.agg [.lst (s.acts.map .str),.own 2 ((List.range (ordOf s).length).map (rcell s i))]]⟩,
      ⟨1,z3,.own 1 [cellv .nils 1 ((ordOf s).map eN)]⟩,⟨a4,c4,.gone⟩,⟨1,z5,.own 1 [.own 1 ((Df (ordOf s) s.S.length (ordOf s).length).map eN)]⟩,o6,o7,o8,o9,⟨a10+1,0,.own 1 [I x]⟩,⟨a11+1,0,.gone⟩,⟨a12+1,0,.gone⟩,⟨a13+1,1,.own 1 [.own 1 ((LB (ordOf s) y (usedN (keptL s x)) s.acts.length a).map I)]⟩]) ?_ ?_ ?_ ?_ ?_
       ·rintro a hh' rfl;rfl
       ·simp only [go_sem,↓reduceIte,↓Aa]
       ·rintro a hh' hbit rfl;rw [Y4 hbit]
       ·rintro a hh' hbit ha62 rfl;obtain ⟨han,hX0,hXn,hmo⟩:=hub a hbit;obtain ⟨k,hk⟩:∃k:Nat,y.X[a]! = k:=⟨y.X[a]!.toNat,by omega⟩;have hps:=AaM (l:=ordOf s) (y:=y) (n:=s.acts.length) hbit;have hpx:placeX (ordOf s) y.X[a]! = ((ordOf s).idxOf k:Int):=by unfold placeX;rw [if_pos hX0,hk,Int.toNat_natCast]
        rw [hpx] at hps;have hkn:k<s.S.length:=by omega
        have hkp:k<(Df (ordOf s) s.S.length (ordOf s).length).length:=by rw [Em];exact hkn
        have hpg:(Df (ordOf s) s.S.length (ordOf s).length)[k]! = (ordOf s).idxOf k:=by rw [RJ hkn,List.take_length,if_pos (by rw [hk,Int.toNat_natCast] at hmo;exact hmo)]
        have haX:a<y.X.length:=by omega
        have hmapI:∀(q:List Int) (j v:Nat),(q.map I).set j (.int .i64 (v:Nat))=(q.set j (v:Nat)).map I:=fun q j v=>by rw [List.map_set]
        simp only [go_sem,↓reduceIte,↓Aa,J4,J2,hx,hye,eSt,haX,hk,hkn,hkp,eN,hpg,UU,han,hmapI,hps];exact ⟨by omega,by omega⟩
       ·rintro a hh' hlta rfl;have hne2:=AaQ (l:=ordOf s) hlta hxX;rw [hne2,←htS];simp only [go_sem,↓reduceIte,↓Aa,List.length_range,PP hlt,hrs,hlt,hrset,Ab hlt (show (ordOf s).length≤1000000000 by omega)];refine ⟨by omega,hN (i+1) _ (by omega) ⟨by omega,?_⟩⟩;simp only [go_sem,↓reduceIte,↓Aa];repeat apply Exists.intro
        rfl
     ·refine ⟨by omega,?_⟩;simp only [go_sem,↓reduceIte,↓Aa,List.take_zero,usedN,List.foldl_nil]
    ·have hil:i=(ordOf s).length:=by omega
     subst hil hQ;have hre:=Ade hsA;simp only [go_sem,↓reduceIte,↓Aa,Int.ofNat_lt,hlt,hne];have he:((ordOf s).map eN).map frz=(ordOf s).map eN:=by rw [List.map_map];rfl
     rw [hre,he];rfl
   ·refine ⟨by omega,?_⟩;simp only [go_sem,↓reduceIte,↓Aa];repeat apply Exists.intro
    rfl
theorem trimmed_r {s:Spc}(h:CR s){roots:List Nat}{b:Nat}{ss:List Nat}{σ:St}{k:AV→St→Prop} :
 callT G A0 [.agg [.lst (s.acts.map .str),.lst (s.S.map eSt)]] true roots b ss σ k=k (.tup [eSp (trimA s).1,.lst ((trimA s).2.map eN)]) σ:=(Zz s h).rule
structure PBig (p:Plan):Prop where
 a:p.A.length≤140737488355328
 x:p.X.length≤140737488355328
 y:∀i<p.X.length,p.X[i]!.length≤140737488355328
structure FBig (f:Fam):Prop where
 a:f.acts.length≤140737488355328
 s:f.S.length≤140737488355328
 p:∀i<f.S.length,PBig f.S[i]!
theorem FnP.flatB {f:FuncId}{xs:List AV}{P:Prop}(h:FnP G f xs fun rs h=>∃v,packV (treeBL 0 h rs)=Bo v∧(v=true→P)∧rs.all AV.flats=true):∃v,FnT G f xs (Bo v)∧(v=true→P):=by
 obtain ⟨F,n,rs,σ1,hf,h1,h2,h3,h4,hr,v,hR,hP,hfl⟩:=h;exact ⟨v,⟨F,n,rs,σ1,hf,h1,h2,h3,h4,hr,hR,hfl⟩,hP⟩
theorem XJ {b:Bool}{P:Prop}:(∃v,AV.bool b=Bo v∧(v=true→P))=(b=true→P):=by
 apply propext;constructor
 ·rintro ⟨v,hv,h⟩;cases hv;exact h
 ·intro h;exact ⟨b,rfl,h⟩
def Qb (f:Fam)(i:Nat)(c:Int):Prop:=(f.acts.length:Int)≤c∧(f.S.length:Int)≤c∧∀j<i,(f.S[j]!.A.length:Int)≤c∧(f.S[j]!.X.length:Int)≤c∧∀m<f.S[j]!.X.length,(f.S[j]!.X[m]!.length:Int)≤c
theorem Qb.mono {f:Fam}{i:Nat}{c d:Int}(h:Qb f i c)(hd:c≤d):Qb f i d :=
 ⟨by have:=h.1;omega,by have:=h.2.1;omega,fun j hj=>⟨by have:=(h.2.2 j hj).1;omega,by have:=(h.2.2 j hj).2.1;omega,fun m hm=>by have:=(h.2.2 j hj).2.2 m hm;omega⟩⟩
theorem Qb.sz {f:Fam}{c:Int}(h:Qb f f.S.length c)(hc:c≤1000):FSz f :=
 ⟨by have:=h.1;omega,by have:=h.2.1;omega,fun j hj=>⟨by have:=(h.2.2 j hj).1;omega,by have:=(h.2.2 j hj).2.1;omega,fun m hm=>by have:=(h.2.2 j hj).2.2 m hm;omega⟩⟩
structure SpBig (s:Spc):Prop where
 fa:s.acts.length≤140737488355328
 fs:s.S.length≤140737488355328
 fx:∀i<s.S.length,s.S[i]!.A.length≤140737488355328∧s.S[i]!.X.length≤140737488355328
 fi:SpI s
def AhY (s:Spc)(i:Nat)(c:Int):Prop:=(s.acts.length:Int)≤c∧(s.S.length:Int)≤c∧∀j<i,(s.S[j]!.A.length:Int)≤c∧(s.S[j]!.X.length:Int)≤c
theorem AdJ (s:Spc)(hs:SpBig s)(K:Int)(h0:0≤K)(hK:K≤1000000):∃v,FnT G JZ [eSp s,I K] (Bo v)∧(v=true→SpSz s):=by
 refine FnP.flatB (FnP.mk' Abp rfl rfl ?_);have ha:=hs.fa;have hS:=hs.fs;have w0:IntKind.i64.wrap ((s.acts.length:Int)+s.S.length)=(s.acts.length:Int)+s.S.length:=by rw [As]<;>omega
 simp only [go_sem,↓reduceIte,↓Aa,VB,eSp,w0];refine Ac (fun (i:Nat) σ=>i≤s.S.length∧∃c:Int,0≤c∧c≤562949953421312∧(c≤K→AhY s i c)∧σ=⟨aT .undef 46 [(1,I K),(2,.ptr 0 1 [] 0 0 0),(5,I c),(6,I i)],[⟨1,0,.own 2 [.agg [.lst (s.acts.map .str),.lst (s.S.map eSt)]]⟩],[]⟩) (fun i=>s.S.length-i) ?_ 0 ?_
 ·rintro i σ ⟨hi,c,hc0,hc1,hc2,rfl⟩ N Q hQ hN;by_cases hlt:i<s.S.length
  ·obtain ⟨hl1,hl2⟩:=hs.fx i hlt;simp only [go_sem,↓reduceIte,↓Aa,eSt,Int.ofNat_lt,hlt];by_cases hc:c≤K
   ·have w1:IntKind.i64.wrap ((s.S[i]!.A.length:Int)+(s.S[i]!.X.length:Int))=(s.S[i]!.A.length:Int)+(s.S[i]!.X.length:Int):=by rw [As]<;>omega
    have w2:IntKind.i64.wrap (c+((s.S[i]!.A.length:Int)+(s.S[i]!.X.length:Int)))=c+((s.S[i]!.A.length:Int)+(s.S[i]!.X.length:Int)):=by rw [As]<;>omega
    have w3:IntKind.i64.wrap ((i:Int)+1)=((i+1:Nat):Int):=by rw [As]<;>omega
    simp only [go_sem,↓reduceIte,↓Aa,hc,w1,w2,w3];refine hN (i+1) _ (by omega) ⟨by omega,c+((s.S[i]!.A.length:Int)+s.S[i]!.X.length),by omega,by omega,fun h=>?_,?_⟩
    ·obtain ⟨g1,g2,g3⟩:=hc2 hc;exact ⟨by omega,by omega,Ae (fun j hj=>by have:=g3 j hj;omega) (by omega)⟩
    ·simp only [go_sem,↓reduceIte,↓Aa]
   ·simp only [go_sem,↓reduceIte,↓Aa,hc];subst hQ;simp only [go_sem,↓reduceIte,↓Aa,XJ,hc]
  ·subst hQ;have hil:i=s.S.length:=by omega
   subst hil;simp only [go_sem,↓reduceIte,↓Aa,Int.ofNat_lt,hlt,XJ,decide_eq_true_eq];intro h;obtain ⟨g1,g2,g3⟩:=hc2 h;exact ⟨by omega,by omega,fun j hj=>by have:=g3 j hj;omega⟩
 ·refine ⟨by omega,s.acts.length+s.S.length,by omega,by omega,fun _=>⟨by omega,by omega,fun j hj=>absurd hj (by omega)⟩,?_⟩;simp only [go_sem,↓reduceIte,↓Aa]
section
variable {roots:List Nat}{b:Nat}{ss:List Nat}{σ:St}{k:AV→St→Prop}
end
end Go.Mw
namespace Go.Mw
set_option maxRecDepth 100000
def zSpc:Spc:=⟨[],[]⟩
section
variable {roots:List Nat}{b:Nat}{ss:List Nat}{σ:St}{k:AV→St→Prop}
end
end Go.Mw
namespace Go.Mw
set_option maxRecDepth 100000
section
variable {α:Type} [Inhabited α]
structure TO (lt:α→α→Bool):Prop where
 asymm:∀ {x y},lt x y=true→lt y x=false
 trans:∀ {x y z},lt y x=false→lt z y=false→lt z x=false
omit [Inhabited α] in
theorem TO.refl {lt:α→α→Bool}(h:TO lt){x:α}:lt x x=false:=by
 cases hc:lt x x with
 | false=>rfl
 | true=>have h2:=h.asymm hc;rw [hc] at h2;cases h2
structure SegP (l l':List α)(a b:Nat):Prop where
 len:l'.length=l.length
 out:∀i,(i<a∨b≤i)→l'[i]! = l[i]!
 perm:l'.Perm l
 all:∀P:α→Prop,(∀i,a≤i→i<b→P l[i]!)→∀i,a≤i→i<b→P l'[i]!
theorem SegP.refl {l:List α}{a b:Nat}:SegP l l a b:=⟨rfl,fun _ _=>rfl,List.Perm.refl _,fun _ h=>h⟩
theorem SegP.tr {l m n:List α}{a b:Nat}(h:SegP l m a b)(k:SegP m n a b):SegP l n a b :=
 ⟨k.len.trans h.len,fun i hi=>(k.out i hi).trans (h.out i hi),k.perm.trans h.perm,fun P hP=>k.all P (h.all P hP)⟩
theorem SegP.wide {l m:List α}{a b c d:Nat}(h:SegP l m c d)(h1:a≤c)(h2:d≤b):SegP l m a b:=by
 refine ⟨h.len,fun i hi=>h.out i (by omega),h.perm,fun P hP i h3 h4=>?_⟩;by_cases hc:c≤i∧i<d
 ·exact h.all P (fun j hj1 hj2=>hP j (by omega) (by omega)) i hc.1 hc.2
 ·rw [h.out i (by omega)];exact hP i h3 h4
def sw (l:List α)(i j:Nat):List α:=(l.set i l[j]!).set j l[i]!
theorem sw_len {l:List α}{i j:Nat}:(sw l i j).length=l.length:=by simp [sw]
theorem AcB {l:List α}{i k:Nat}{v:α}(hi:i<l.length):(l.set i v)[k]! = if k=i then v else l[k]!:=by
 by_cases e:k=i
 ·subst e;rw [if_pos rfl,getElem!_pos _ k (by simpa using hi),List.getElem_set_self]
 ·rw [if_neg e,List.getElem!_eq_getElem?_getD,List.getElem?_set_ne (fun h=>e h.symm),←List.getElem!_eq_getElem?_getD]
theorem sw_get {l:List α}{i j k:Nat}(hi:i<l.length)(hj:j<l.length):(sw l i j)[k]! = if k=j then l[i]! else if k=i then l[j]! else l[k]!:=by
 unfold sw;rw [AcB (by simpa using hj),AcB hi]
theorem sw_seg {l:List α}{i j a b:Nat}(hi:i<l.length)(hj:j<l.length)(h1:a≤i)(h2:i<b)(h3:a≤j)(h4:j<b):SegP l (sw l i j) a b:=by
 refine ⟨sw_len,fun k hk=>?_,?_,fun P hP k h5 h6=>?_⟩
 ·rw [sw_get hi hj,if_neg (by omega),if_neg (by omega)]
 ·unfold sw;rw [getElem!_pos l j hj,getElem!_pos l i hi];exact List.set_set_perm hi hj
 ·rw [sw_get hi hj];split
  ·exact hP i h1 h2
  ·split
   ·exact hP j h3 h4
   ·exact hP k h5 h6
variable {lt:α→α→Bool}
def Srt (lt:α→α→Bool)(l:List α)(a b:Nat):Prop:=∀i j,a≤i→i<j→j<b→lt l[j]! l[i]! = false
structure Hole (lt:α→α→Bool)(l:List α)(a i j:Nat):Prop where
 o:∀p q,a≤p→p<q→q≤i→p≠j→q≠j→lt l[q]! l[p]! = false
 h:∀q,j<q→q≤i→lt l[q]! l[j]! = false
theorem Hole.start {l:List α}{a i:Nat}(h:Srt lt l a i):Hole lt l a i i:=⟨fun p q h1 h2 h3 h4 h5=>h p q h1 h2 (by omega),fun q h1 h2=>by omega⟩
theorem Hole.step {l:List α}{a i j:Nat}(ht:TO lt)(h:Hole lt l a i j)(hj:a<j)(hji:j≤i)(hi:i<l.length)(hl:lt l[j]! l[j-1]! = true):Hole lt (sw l j (j-1)) a i (j-1):=by
 have hj1:j<l.length:=by omega
 have hj2:j-1<l.length:=by omega
 refine ⟨fun p q h1 h2 h3 h4 h5=>?_,fun q h1 h2=>?_⟩
 ·rw [sw_get hj1 hj2,sw_get hj1 hj2,if_neg h5,if_neg h4];by_cases e1:q=j
  ·rw [if_pos e1,if_neg (by omega)];exact h.o p (j-1) h1 (by omega) (by omega) (by omega) (by omega)
  ·rw [if_neg e1];by_cases e2:p=j
   ·rw [if_pos e2];exact h.o (j-1) q (by omega) (by omega) h3 (by omega) e1
   ·rw [if_neg e2];exact h.o p q h1 h2 h3 e2 e1
 ·rw [sw_get hj1 hj2,sw_get hj1 hj2,if_neg (by omega),if_pos rfl];by_cases e1:q=j
  ·rw [if_pos e1];exact ht.asymm hl
  ·rw [if_neg e1];exact h.h q (by omega) h2
theorem Hole.fin {l:List α}{a i j:Nat}(ht:TO lt)(h:Hole lt l a i j)(hj:a≤j)(hji:j≤i)(hl:j=a∨lt l[j]! l[j-1]! = false):Srt lt l a (i+1):=by
 intro p q h1 h2 h3;by_cases e1:p=j
 ·rw [e1];exact h.h q (by omega) (by omega)
 ·by_cases e2:q=j
  ·rw [e2];rcases hl with hl|hl
   ·omega
   ·by_cases e3:p=j-1
    ·rw [e3];exact hl
    ·exact ht.trans (h.o p (j-1) h1 (by omega) (by omega) e1 (by omega)) hl
  ·exact h.o p q h1 h2 (by omega) e1 e2
theorem Srt.one {l:List α}{a b:Nat}(h:b≤a+1):Srt lt l a b:=fun i j h1 h2 h3=>by omega
def Hp (lt:α→α→Bool)(l:List α)(f lo hi:Nat):Prop:=∀p c,lo≤p→(c=2*p+1∨c=2*p+2)→c<hi→lt l[f+p]! l[f+c]! = false
structure HpX (lt:α→α→Bool)(l:List α)(f lo hi r:Nat):Prop where
 o:∀p c,lo≤p→p≠r→(c=2*p+1∨c=2*p+2)→c<hi→lt l[f+p]! l[f+c]! = false
 g:∀p c,lo≤p→(r=2*p+1∨r=2*p+2)→(c=2*r+1∨c=2*r+2)→c<hi→lt l[f+p]! l[f+c]! = false
theorem HpX.start {l:List α}{f lo hi:Nat}(h:Hp lt l f (lo+1) hi):HpX lt l f lo hi lo :=
 ⟨fun p c h1 h2 h3 h4=>h p c (by omega) h3 h4,fun p c h1 h2 h3 h4=>by omega⟩
theorem HpX.fin {l:List α}{f lo hi r:Nat}(ht:TO lt)(h:HpX lt l f lo hi r){c:Nat}(hc:c=2*r+1∨c=2*r+2)(hm:∀d,(d=2*r+1∨d=2*r+2)→d<hi→lt l[f+c]! l[f+d]! = false)(hl:lt l[f+r]! l[f+c]! = false):Hp lt l f lo hi:=by
 intro p d h1 h2 h3;by_cases e:p=r
 ·subst e;exact ht.trans (hm d h2 h3) hl
 ·exact h.o p d h1 e h2 h3
theorem HpX.leaf {l:List α}{f lo hi r:Nat}(h:HpX lt l f lo hi r)(hr:hi≤2*r+1):Hp lt l f lo hi:=by
 intro p d h1 h2 h3;by_cases e:p=r
 ·subst e;omega
 ·exact h.o p d h1 e h2 h3
theorem HpX.step {l:List α}{f lo hi r:Nat}(ht:TO lt)(h:HpX lt l f lo hi r)(hlo:lo≤r){c:Nat}(hc:c=2*r+1∨c=2*r+2)(hch:c<hi)(hlen:f+hi≤l.length)(hm:∀d,(d=2*r+1∨d=2*r+2)→d<hi→lt l[f+c]! l[f+d]! = false)(hl:lt l[f+r]! l[f+c]! = true):HpX lt (sw l (f+r) (f+c)) f lo hi c:=by
 have hr1:f+r<l.length:=by omega
 have hc1:f+c<l.length:=by omega
 have hg:∀k,(sw l (f+r) (f+c))[f+k]! = if k=c then l[f+r]! else if k=r then l[f+c]! else l[f+k]!:=fun k=>by
  rw [sw_get hr1 hc1];by_cases e1:k=c
  ·subst e1;rw [if_pos rfl,if_pos rfl]
  ·rw [if_neg (by omega),if_neg e1];by_cases e2:k=r
   ·subst e2;rw [if_pos rfl,if_pos rfl]
   ·rw [if_neg (by omega),if_neg e2]
 refine ⟨fun p d h1 h2 h3 h4=>?_,fun p d h1 h2 h3 h4=>?_⟩
 ·rw [hg,hg,if_neg h2];by_cases e1:d=c
  ·rw [if_pos e1];have:p=r:=by omega
   rw [if_pos this];exact ht.asymm hl
  ·rw [if_neg e1];by_cases e2:p=r
   ·rw [if_pos e2,if_neg (by omega)];exact hm d (by omega) h4
   ·rw [if_neg e2];by_cases e3:d=r
    ·rw [if_pos e3];exact h.g p c h1 (by omega) hc hch
    ·rw [if_neg e3];exact h.o p d h1 e2 h3 h4
 ·have hpr:p=r:=by omega
  rw [hg,hg,hpr,if_neg (by omega),if_pos rfl,if_neg (by omega),if_neg (by omega)];exact h.o c d (by omega) (by omega) h3 h4
theorem Hp.top {l:List α}{f hi:Nat}(ht:TO lt)(h:Hp lt l f 0 hi):∀n c,c≤n→c<hi→lt l[f]! l[f+c]! = false:=by
 intro n;induction n with
 | zero=>intro c h1 h2;have:c=0:=by omega
         subst this;exact ht.refl
 | succ n ih =>
   intro c h1 h2;by_cases e:c=0
   ·subst e;exact ht.refl
   ·have h3:=h ((c-1) / 2) c (by omega) (by omega) h2;have h4:=ih ((c-1) / 2) (by omega) (by omega);exact ht.trans h3 h4
end
end Go.Mw
namespace Go.Mw
set_option maxRecDepth 100000
def dh (H:List Ob)(r st ss:Nat)(l:List Int):List Ob:=H.set r ⟨st,ss,.own 1 (l.map I)⟩
theorem AW {H:List Ob}{r st ss:Nat}{l:List Int}(hr:r<H.length):(dh H r st ss l)[r]? = some ⟨st,ss,.own 1 (l.map I)⟩:=by unfold dh;rw [List.getElem?_set_self hr]
theorem dh_set {H:List Ob}{r st ss st' ss':Nat}{l m:List Int}:(dh H r st ss l).set r ⟨st',ss',.own 1 (m.map I)⟩=dh H r st' ss' m:=by unfold dh;rw [List.set_set]
theorem dh_len {H:List Ob}{r st ss:Nat}{l:List Int}:(dh H r st ss l).length=H.length:=by unfold dh;rw [List.length_set]
theorem dh_take {H:List Ob}{r st ss:Nat}{l:List Int}:(dh H r st ss l).take H.length=dh H r st ss l:=List.take_of_length_le (by rw [dh_len];exact Nat.le_refl _)
theorem map_setI' {l:List Int}{i:Nat}{v:Int}:(l.map I).set i (.int .i64 v)=(l.set i v).map I:=by rw [List.map_set]
theorem freeL_n {h:List Ob}:Jk [] 0 h=h:=by
 have key:∀(h:List Ob) (i:Nat),Jk [] i h=h:=by
  intro h;induction h with
  | nil=>intro i;rfl
  | cons o h ih=>intro i;simp only [Jk];rw [ih];simp
 exact key h 0
theorem Aiv (x:Int):FnT G BL [I x] (Bo false):=by
 refine FnP.mk' On rfl rfl ?_;have:(x != x)=false:=by simp
 simp only [go_sem,↓reduceIte,↓Aa,Ko,this]
theorem AiS {x:Int}{fr:Bool}{roots:List Nat}{b:Nat}{ss:List Nat}{σ:St}{k:AV→St→Prop}:callT G BL [I x] fr roots b ss σ k=k (Bo false) σ:=(Aiv x).rule
theorem Ag2 (x y:Int):FnT G Af [I x,I y] (Bo (decide (x<y))):=by
 refine FnP.mk' Qm rfl rfl ?_;simp only [go_sem,↓reduceIte,↓Aa,KR,AiS]
theorem less_r {x y:Int}{fr:Bool}{roots:List Nat}{b:Nat}{ss:List Nat}{σ:St}{k:AV→St→Prop}:callT G Af [I x,I y] fr roots b ss σ k=k (Bo (decide (x<y))) σ:=(Ag2 x y).rule
attribute [go_sem] dh_set dh_len dh_take map_setI' less_r freeL_n
def ltI (x y:Int):Bool:=decide (x<y)
theorem to_ltI:TO ltI:=by
 constructor
 ·intro x y h;unfold ltI at h ⊢;rw [decide_eq_true_eq] at h;rw [decide_eq_false_iff_not];omega
 ·intro x y z h1 h2;unfold ltI at h1 h2 ⊢;rw [decide_eq_false_iff_not] at h1 h2 ⊢;omega
theorem Ag3 {l:List Int}{a b:Nat}(hab:a≤b)(hb:b≤l.length)(hl:l.length≤1000000){t:List AV}{lp:List Lp}{H:List Ob}{r st ss s0 bs:Nat}{K:AV→St→Prop}{L:Nat}(hL:l.length=L)(hr:r<H.length)
 (hK:∀l',SegP l l' a b→Srt ltI l' a b→K (.tup []) ⟨t,dh H r st ss l',lp⟩):Bc G Aw [.sl r st [] s0 0 L,I a,I b] bs [] ⟨t,dh H r st ss l,lp⟩ K:=by
 subst hL;refine Bs Cb rfl ?_;rw [A6 (by simp)];have wa:IntKind.i64.wrap ((a:Int)+1)=((a+1:Nat):Int):=by rw [As]<;>omega
 simp only [go_sem,↓reduceIte,↓Aa,Bk,wa];refine Ac (fun (i:Nat) σ=>a+1≤i∧∃m,SegP l m a b∧Srt ltI m a (min i b)∧(b≤i→Srt ltI m a b)∧σ=⟨aT .undef 49 [(0,.sl r st [] s0 0 l.length),(1,I a),(2,I b),(6,I i)],dh H r st ss m,lp⟩) (fun i=>b-i) ?_ (a+1) ?_
 ·rintro i σ ⟨hi,m,hm,hsm,hsb,rfl⟩ N Q hQ hN;have hml:=hm.len;by_cases hlt:i<b
  ·simp only [go_sem,↓reduceIte,↓Aa,Int.ofNat_lt,hlt];have hsi:Srt ltI m a i:=by rw [Nat.min_eq_left (by omega)] at hsm;exact hsm
   refine Ac (fun (j:Nat) σ=>(a≤j∧j≤i)∧∃n,SegP l n a b∧Hole ltI n a i j∧σ=⟨aT .undef 49 [(0,.sl r st [] s0 0 l.length),(1,I a),(2,I b),(6,I i),(7,I j)],dh H r st ss n,lp⟩) (fun j=>j) ?_ i ?_
   ·rintro j σ ⟨⟨hj1,hj2⟩,n,hn,hh,rfl⟩ N2 Q2 hQ2 hN2;have hnl:=hn.len;have hmin:min (i+1) b=i+1:=Nat.min_eq_left (by omega);have hbeq:∀ {n},Srt ltI n a (i+1)→b≤i+1→Srt ltI n a b:=fun hs hbi=>by
     have:b=i+1:=by omega
     rw [this];exact hs
    by_cases ha:a<j
    ·have hj0:j<n.length:=by omega
     have hj3:j-1<n.length:=by omega
     have w1:IntKind.i64.wrap ((j:Int)-1)=((j-1:Nat):Int):=by rw [As]<;>omega
     have hjl:j<l.length:=by omega
     have hjl1:j-1<l.length:=by omega
     simp only [go_sem,↓reduceIte,↓Aa,Int.ofNat_lt,ha,hjl,hjl1,hj0,hj3,w1,AW hr];refine ⟨fun hlt2=>⟨by simpa using hj3,hN2 (j-1) _ (by omega) ⟨⟨by omega,by omega⟩,sw n j (j-1),hn.tr (sw_seg hj0 hj3 (by omega) (by omega) (by omega) (by omega)),hh.step to_ltI ha hj2 (by omega) (by unfold ltI;rw [decide_eq_true_eq];exact hlt2),?_⟩⟩,fun hge=>?_⟩
     ·simp only [go_sem,↓reduceIte,↓Aa,sw]
     ·subst hQ2;have hs:=hh.fin to_ltI hj1 hj2 (.inr (by unfold ltI;rw [decide_eq_false_iff_not];exact hge));simp only [go_sem,↓reduceIte,↓Aa,Ab hlt (show b≤1000000000 by omega)];refine hN (i+1) _ (by omega) ⟨by omega,n,hn,by rw [hmin];exact hs,hbeq hs,?_⟩;simp only [go_sem,↓reduceIte,↓Aa]
    ·have hja:j=a:=by omega
     subst hQ2;have hs:=hh.fin to_ltI hj1 hj2 (.inl hja);simp only [go_sem,↓reduceIte,↓Aa,Int.ofNat_lt,ha,Ab hlt (show b≤1000000000 by omega)];refine hN (i+1) _ (by omega) ⟨by omega,n,hn,by rw [hmin];exact hs,hbeq hs,?_⟩;simp only [go_sem,↓reduceIte,↓Aa]
   ·refine ⟨⟨by omega,Nat.le_refl _⟩,m,hm,Hole.start hsi,?_⟩;simp only [go_sem,↓reduceIte,↓Aa]
  ·subst hQ;simp only [go_sem,↓reduceIte,↓Aa,Int.ofNat_lt,hlt];exact hK m hm (hsb (by omega))
 ·refine ⟨Nat.le_refl _,l,SegP.refl,Srt.one (by omega),fun hb2=>Srt.one (by omega),?_⟩;simp only [go_sem,↓reduceIte,↓Aa]
theorem Yo {l:List Int}{lo hi f:Nat}(hb:f+hi≤l.length)(hl:l.length≤1000000)(hlo:lo≤1000000)(hp:Hp ltI l f (lo+1) hi){t:List AV}{lp:List Lp}{H:List Ob}{r st ss s0 bs:Nat}{K:AV→St→Prop}{L:Nat}(hL:l.length=L)(hr:r<H.length)
 (hK:∀l',SegP l l' f (f+hi)→Hp ltI l' f lo hi→K (.tup []) ⟨t,dh H r st ss l',lp⟩):Bc G AK [.sl r st [] s0 0 L,I lo,I hi,I f] bs [] ⟨t,dh H r st ss l,lp⟩ K:=by
 subst hL;refine Bs F6 rfl ?_;rw [A6 (by simp)];simp only [go_sem,↓reduceIte,↓Aa,C5];refine Ac (fun (i:Nat) σ=>lo≤i∧i≤2000002∧∃m,SegP l m f (f+hi)∧HpX ltI m f lo hi i∧σ=⟨aT .undef 76 [(0,.sl r st [] s0 0 l.length),(2,I hi),(3,I f),(8,I i)],dh H r st ss m,lp⟩) (fun i=>hi-i) ?_ lo ?_
 ·rintro i σ ⟨hi1,hi2,m,hm,hx,rfl⟩ N Q hQ hN;have hml:=hm.len;have w1:IntKind.i64.wrap ((2:Int)*(i:Int))=((2*i:Nat):Int):=by rw [As]<;>omega
  have w2:IntKind.i64.wrap (((2*i:Nat):Int)+1)=((2*i+1:Nat):Int):=by rw [As]<;>omega
  have w2':IntKind.i64.wrap (((2*i+1:Nat):Int)+1)=((2*i+2:Nat):Int):=by rw [As]<;>omega
  by_cases hc:2*i+1<hi
  ·have w3:IntKind.i64.wrap ((f:Int)+((2*i+1:Nat):Int))=((f+(2*i+1):Nat):Int):=by rw [As]<;>omega
   have w4:IntKind.i64.wrap (((f+(2*i+1):Nat):Int)+1)=((f+(2*i+2):Nat):Int):=by rw [As]<;>omega
   have w5:IntKind.i64.wrap ((f:Int)+(i:Int))=((f+i:Nat):Int):=by rw [As]<;>omega
   have w6:IntKind.i64.wrap ((f:Int)+((2*i+2:Nat):Int))=((f+(2*i+2):Nat):Int):=by rw [As]<;>omega
   have hni:¬hi≤2*i+1:=by omega
   have b1:f+(2*i+1)<l.length:=by omega
   have b2:f+i<l.length:=by omega
   have b1':f+(2*i+1)<m.length:=by omega
   have b2':f+i<m.length:=by omega
   have go:∀c,(c=2*i+1∨c=2*i+2)→c<hi→(∀d,(d=2*i+1∨d=2*i+2)→d<hi→ltI m[f+c]! m[f+d]! = false)→(m[f+i]! < m[f+c]!→HpX ltI (sw m (f+i) (f+c)) f lo hi c∧SegP l (sw m (f+i) (f+c)) f (f+hi))∧(¬m[f+i]! < m[f+c]!→Hp ltI m f lo hi):=by
    intro c h1 h2 h3;refine ⟨fun h4=>⟨hx.step to_ltI hi1 h1 h2 (by omega) h3 (by unfold ltI;rw [decide_eq_true_eq];exact h4),hm.tr (sw_seg (by omega) (by omega) (by omega) (by omega) (by omega) (by omega))⟩,fun h4=>hx.fin to_ltI h1 h3 (by unfold ltI;rw [decide_eq_false_iff_not];exact h4)⟩
   by_cases hc2:2*i+2<hi
   ·have b3:f+(2*i+2)<l.length:=by omega
    have b3':f+(2*i+2)<m.length:=by omega
    by_cases hlt:m[f+(2*i+1)]! < m[f+(2*i+2)]!
    ·obtain ⟨g1,g2⟩:=go (2*i+2) (.inr rfl) hc2 (by
      rintro d (rfl|rfl) hd
      ·unfold ltI;rw [decide_eq_false_iff_not];omega
      ·exact to_ltI.refl)
     simp only [go_sem,↓reduceIte,↓Aa,w1,w2,w2',w3,w4,w5,w6,Int.ofNat_le,Int.ofNat_lt,hni,hc2,b1,b2,b3,b1',b2',b3',AW hr,hlt];refine ⟨fun h4=>?_,fun h4=>⟨by simpa using b3',hN (2*i+2) _ (by omega) ⟨by omega,by omega,_,(g1 h4).2,(g1 h4).1,?_⟩⟩⟩
     ·subst hQ;simp only [go_sem,↓reduceIte,↓Aa];exact hK m hm (g2 h4)
     ·simp only [go_sem,↓reduceIte,↓Aa,sw]
    ·obtain ⟨g1,g2⟩:=go (2*i+1) (.inl rfl) hc (by
      rintro d (rfl|rfl) hd
      ·exact to_ltI.refl
      ·unfold ltI;rw [decide_eq_false_iff_not];exact hlt)
     simp only [go_sem,↓reduceIte,↓Aa,w1,w2,w2',w3,w4,w5,w6,Int.ofNat_le,Int.ofNat_lt,hni,hc2,b1,b2,b3,b1',b2',b3',AW hr,hlt];refine ⟨fun h4=>?_,fun h4=>⟨by simpa using b1',hN (2*i+1) _ (by omega) ⟨by omega,by omega,_,(g1 h4).2,(g1 h4).1,?_⟩⟩⟩
     ·subst hQ;simp only [go_sem,↓reduceIte,↓Aa];exact hK m hm (g2 h4)
     ·simp only [go_sem,↓reduceIte,↓Aa,sw]
   ·obtain ⟨g1,g2⟩:=go (2*i+1) (.inl rfl) hc (by
     rintro d (rfl|rfl) hd
     ·exact to_ltI.refl
     ·omega)
    simp only [go_sem,↓reduceIte,↓Aa,w1,w2,w2',w3,w4,w5,w6,Int.ofNat_le,Int.ofNat_lt,hni,hc2,b1,b2,b1',b2',AW hr];refine ⟨fun h4=>?_,fun h4=>⟨by simpa using b1',hN (2*i+1) _ (by omega) ⟨by omega,by omega,_,(g1 h4).2,(g1 h4).1,?_⟩⟩⟩
    ·subst hQ;simp only [go_sem,↓reduceIte,↓Aa];exact hK m hm (g2 h4)
    ·simp only [go_sem,↓reduceIte,↓Aa,sw]
  ·have hni:hi≤2*i+1:=by omega
   subst hQ;simp only [go_sem,↓reduceIte,↓Aa,w1,w2,Int.ofNat_le,hni];exact hK m hm (hx.leaf (by omega))
 ·refine ⟨Nat.le_refl _,by omega,l,SegP.refl,HpX.start hp,?_⟩;simp only [go_sem,↓reduceIte,↓Aa]
theorem AiV {n:Nat}(h:n≤1000000):IntKind.i64.wrap (((n:Nat):Int).tdiv 2)=((n / 2:Nat):Int):=by
 have:((n:Nat):Int).tdiv 2=((n / 2:Nat):Int):=by
  rw [Int.tdiv_eq_ediv_of_nonneg (by omega)];omega
 rw [this,As]<;>omega
def Suf (l:List Int)(a k n:Nat):Prop:=∀p q,p<q→k≤q→q<n→ltI l[a+q]! l[a+p]! = false
theorem Suf.step {m m':List Int}{a i n:Nat}(hlen:a+n≤m.length)(hi:i<n)(hs:Suf m a (i+1) n)(hp:Hp ltI m a 0 (i+1))(hm:SegP (sw m a (a+i)) m' a (a+i)):Suf m' a i n:=by
 have ha:a<m.length:=by omega
 have hai:a+i<m.length:=by omega
 have hg:∀j,(sw m a (a+i))[a+j]! = if j=i then m[a]! else if j=0 then m[a+i]! else m[a+j]!:=fun j=>by
  rw [sw_get ha hai];by_cases e1:j=i
  ·rw [if_pos (by omega),if_pos e1]
  ·rw [if_neg (by omega),if_neg e1];by_cases e2:j=0
   ·rw [if_pos (by omega),if_pos e2]
   ·rw [if_neg (by omega),if_neg e2]
 have htop:=fun j (hj:j<i+1)=>Hp.top to_ltI hp j j (Nat.le_refl _) hj;intro p q h1 h2 h3;rw [hm.out (a+q) (by omega),hg];by_cases e1:q=i
 ·rw [if_pos e1];refine hm.all (fun x=>ltI m[a]! x=false) (fun j hj1 hj2=>?_) (a+p) (by omega) (by omega);obtain ⟨d,rfl⟩:∃d,j=a+d:=⟨j-a,by omega⟩;rw [hg,if_neg (by omega)];split
  ·exact htop i (by omega)
  ·exact htop d (by omega)
 ·rw [if_neg e1,if_neg (by omega)];by_cases e2:p<i
  ·refine hm.all (fun x=>ltI m[a+q]! x=false) (fun j hj1 hj2=>?_) (a+p) (by omega) (by omega);obtain ⟨d,rfl⟩:∃d,j=a+d:=⟨j-a,by omega⟩;rw [hg,if_neg (by omega)];split
   ·exact hs i q (by omega) (by omega) h3
   ·exact hs d q (by omega) (by omega) h3
  ·rw [hm.out (a+p) (by omega),hg];by_cases e3:p=i
   ·rw [if_pos e3];exact hs 0 q (by omega) (by omega) h3
   ·rw [if_neg e3,if_neg (by omega)];exact hs p q h1 (by omega) h3
theorem AeG {l:List Int}{a b:Nat}(hab:a<b)(hb:b≤l.length)(hl:l.length≤1000000){t:List AV}{lp:List Lp}{H:List Ob}{r st ss s0 bs:Nat}{K:AV→St→Prop}{L:Nat}(hL:l.length=L)(hr:r<H.length)
 (hK:∀l',SegP l l' a b→Srt ltI l' a b→K (.tup []) ⟨t,dh H r st ss l',lp⟩):Bc G Bd [.sl r st [] s0 0 L,I a,I b] bs [] ⟨t,dh H r st ss l,lp⟩ K:=by
 subst hL;refine Bs F9 rfl ?_;rw [A6 (by simp)];obtain ⟨n,hn⟩:∃n,b=a+n:=⟨b-a,by omega⟩;have w1:IntKind.i64.wrap ((b:Int)-(a:Int))=(n:Int):=by rw [As]<;>omega
 have w2:IntKind.i64.wrap ((n:Int)-1)=((n-1:Nat):Int):=by rw [As]<;>omega
 simp only [go_sem,↓reduceIte,↓Aa,C6,w1,w2,AiV (show n-1≤1000000 by omega)];refine Ac (fun (k:Nat) σ=>k≤n∧∃m,SegP l m a b∧Hp ltI m a k n∧σ=⟨aT .undef 56 [(0,.sl r st [] s0 0 l.length),(6,I a),(7,I 0),(8,I n),(9,I ((k:Int)-1))],dh H r st ss m,lp⟩) (fun k=>k) ?_ ((n-1) / 2+1) ?_
 ·rintro k σ ⟨hkn,m,hm,hp,rfl⟩ N Q hQ hN;have hml:=hm.len;by_cases hk:0<k
  ·have e1:((k:Int)-1)=((k-1:Nat):Int):=by omega
   have w3:IntKind.i64.wrap (((k-1:Nat):Int)-1)=((k-1:Nat):Int)-1:=by rw [As]<;>omega
   rw [←hml,e1];simp only [go_sem,↓reduceIte,↓Aa,Int.natCast_nonneg,w3];refine Yo (l:=m) (lo:=k-1) (hi:=n) (f:=a) (by omega) (by omega) (by omega) (by rw [show k-1+1=k by omega];exact hp) rfl hr (fun m' hm' hp'=>?_);simp only [go_sem,↓reduceIte,↓Aa,w3];refine hN (k-1) _ (by omega) ⟨by omega,m',hm.tr (by rw [hn];exact hm'),hp',?_⟩;simp only [go_sem,↓reduceIte,↓Aa,hml]
  ·have hk0:k=0:=by omega
   subst hk0 hQ;have hneg:¬(0:Int)≤((0:Nat):Int)-1:=by omega
   simp only [go_sem,↓reduceIte,↓Aa,hneg,w2];refine Ac (fun (k:Nat) σ=>k≤n∧∃m,SegP l m a b∧Hp ltI m a 0 k∧Suf m a k n∧σ=⟨aT .undef 56 [(0,.sl r st [] s0 0 l.length),(6,I a),(7,I 0),(10,I ((k:Int)-1))],dh H r st ss m,lp⟩) (fun k=>k) ?_ n ?_
   ·rintro k σ ⟨hkn,m,hm,hp,hsf,rfl⟩ N2 Q2 hQ2 hN2;have hml:=hm.len;by_cases hk:0<k
    ·have e1:((k:Int)-1)=((k-1:Nat):Int):=by omega
     have w3:IntKind.i64.wrap (((k-1:Nat):Int)-1)=((k-1:Nat):Int)-1:=by rw [As]<;>omega
     have w4:IntKind.i64.wrap ((a:Int)+((k-1:Nat):Int))=((a+(k-1):Nat):Int):=by rw [As]<;>omega
     have b1:a<m.length:=by omega
     have b2:a+(k-1)<m.length:=by omega
     rw [←hml,e1];simp only [go_sem,↓reduceIte,↓Aa,Int.natCast_nonneg,Int.ofNat_lt,w3,w4,b1,b2,AW hr];refine ⟨by simpa using b2,?_⟩;have hsw:=@sw_get Int _ m a (a+(k-1));refine Yo (l:=sw m a (a+(k-1))) (lo:=0) (hi:=k-1) (f:=a) (by rw [sw_len];omega) (by rw [sw_len];omega) (by omega) (fun p c h1 h2 h3=>?_) sw_len hr (fun m' hm' hp'=>?_)
     ·rw [hsw b1 b2,hsw b1 b2,if_neg (by omega),if_neg (by omega),if_neg (by omega),if_neg (by omega)];exact hp p c (by omega) h2 (by omega)
     ·simp only [go_sem,↓reduceIte,↓Aa,w3];refine hN2 (k-1) _ (by omega) ⟨by omega,m',hm.tr ((sw_seg b1 b2 (Nat.le_refl _) (by omega) (by omega) (by omega)).tr (hm'.wide (Nat.le_refl _) (by omega))),hp',Suf.step (by omega) (by omega) (by rw [show k-1+1=k by omega];exact hsf) (by rw [show k-1+1=k by omega];exact hp) hm',?_⟩;simp only [go_sem,↓reduceIte,↓Aa,hml]
    ·have hk0:k=0:=by omega
     subst hk0 hQ2;have hneg:¬(0:Int)≤((0:Nat):Int)-1:=by omega
     simp only [go_sem,↓reduceIte,↓Aa,hneg];refine hK m hm (fun i j h1 h2 h3=>?_);have:=hsf (i-a) (j-a) (by omega) (by omega) (by omega);rwa [show a+(j-a)=j by omega,show a+(i-a)=i by omega] at this
   ·refine ⟨Nat.le_refl _,m,hm,hp,fun p q h1 h2 h3=>by omega,?_⟩;simp only [go_sem,↓reduceIte,↓Aa];rw [show ((n-1:Nat):Int)=(n:Int)-1 by omega]
 ·refine ⟨by omega,l,SegP.refl,fun p c h1 h2 h3=>by omega,?_⟩;simp only [go_sem,↓reduceIte,↓Aa];rw [show (((n-1) / 2:Nat):Int)=(((n-1) / 2+1:Nat):Int)-1 by omega]
end Go.Mw
