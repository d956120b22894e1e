/- Trimming, as the program does it. -/
import Derived.Test.YtondemeliogjmaaGreatM22
set_option linter.unusedVariables false
set_option linter.unusedSimpArgs false
namespace Go.Mw
set_option maxRecDepth 100000
theorem left_ok (s:Spc):Fn G D6 [eSp s] (.fn BD [.pfro [.lst (s.acts.map .str),.lst (s.S.map eSt)]]):=by
 refine FnP.mk' Vh rfl rfl ?_;simp only [go_sem,↓reduceIte,↓Aa,Om,eSp]
theorem AgP {s:Spc}{roots:List Nat}{b:Nat}{ss:List Nat}{σ:St}{k:AV→St→Prop}:callT G D6 [.agg [.lst (s.acts.map .str),.lst (s.S.map eSt)]] true roots b ss σ k=k (.fn BD [.pfro [.lst (s.acts.map .str),.lst (s.S.map eSt)]]) σ:=(left_ok s).rule
theorem Ai7 {ks:List Nat}{h:List Ob}:freeSites 14 ks h=Jk (ks.map (14 + ·)) 0 h:=by rw [L8,Fj]
theorem Ad1 {t:List AV}:setPs [] [] t=t:=(rfl)
theorem Aar {p:Nat}{ps:List Nat}{v:AV}{vs t:List AV}:setPs (p::ps) (v::vs) t=setPs ps vs (t.set p v):=(rfl)
def tLp (t:List AV)(pend:Option Ex)(busy:Bool):Lp:={ base:=0,t,ps:=[26,27],kt:=rest 104 [1,2,3,4,5,6],ks:=[6,7,8,9],asg:=Cn,body:=B4,pend,busy }
noncomputable def ZX (s:Spc)(x:Nat):Stt:=⟨keptL s x,[]⟩
noncomputable def F5 (s:Spc)(z2 z3 a4 c4 z5:Nat)(i:Nat)(o6 o7 o8 o9:Ob):List Ob :=
 [⟨1,0,.own 2 [.agg [.lst (s.acts.map .str),.lst (s.S.map eSt)]]⟩,⟨1,0,.own 2 [.agg [.nils,.nils]]⟩,⟨1,z2,.own 2 [.agg [.lst (s.acts.map .str),cellv .nils 2 ((((ordOf s).take i).map (ZX s)).map rowS)]]⟩,
  ⟨1,z3,.own 1 [cellv .nils 1 (((ordOf s).take i).map eN)]⟩,⟨a4,c4,.gone⟩,⟨1,z5,.own 1 [.own 1 ((CN (ordOf s) s.S.length i).map eN)]⟩,o6,o7,o8,o9,⟨0,0,.gone⟩,⟨0,0,.gone⟩,⟨0,0,.gone⟩,⟨0,0,.gone⟩]
theorem Adw (s:Spc)(h:FY s)(h0:(Cp s)[0]! = false)(l:List (Nat×AV))(l25:Kl (.tup []) 25 l = .fn BD [.pfro [.lst (s.acts.map .str),.lst (s.S.map eSt)]])
 (l1:Kl (.tup []) 1 l = .ptr 0 1 [] 0 0 0) (l2:Kl (.tup []) 2 l = .ptr 1 1 [] 0 0 0) (l3:Kl (.tup []) 3 l = .nils) (l4:Kl (.tup []) 4 l = .ptr 2 1 [] 0 0 0) (l5:Kl (.tup []) 5 l = .ptr 3 1 [] 0 0 0) (l6:Kl (.tup []) 6 l = .ptr 5 1 [] 0 0 0)
 {Q:Ex→St→Prop}(hQ:∀z2 z3 a4 c4 z5 o6 o7 o8 o9,Q .nrm ⟨aT (.tup []) 104 l,F5 s z2 z3 a4 c4 z5 (ordOf s).length o6 o7 o8 o9,[]⟩) :
 Wp G (.rngf (.t 25) [26,27] (rest 104 [1,2,3,4,5,6]) [6,7,8,9] Cn B4) 0 ⟨aT (.tup []) 104 l,F5 s 0 0 1 0 1 0 ⟨0,0,.gone⟩ ⟨0,0,.gone⟩ ⟨0,0,.gone⟩ ⟨0,0,.gone⟩,[]⟩ Q:=by
 have hz:=h.sz;have hb:=h.b hz;have h1:0<s.S.length:=h.s1;have h8:=Ax h.acts;have hS:=h.s2;have hol:=XM h1;have hvi:=fun i=>N6 (nx:=fun x=>(solidOf s).S[x]!.X) h1 (N8 hb) i;have hsol:=Qa h h0;refine wp_rngf (g:=BD) (cs:=[.pfro [.lst (s.acts.map .str),.lst (s.S.map eSt)]]) (by simp only [go_sem,↓reduceIte,↓Aa,l25]) (Lk LS rfl ?_);rw [Jn (by simp)];have hrec:∀t pe bu,({ base:=0,t,ps:=[26,27],kt:=rest 104 [1,2,3,4,5,6],ks:=[6,7,8,9],asg:=Cn,body:=B4,pend:=pe,busy:=bu }:Lp)=tLp t pe bu:=fun _ _ _=>rfl;simp only [hrec];simp only [go_sem,↓reduceIte,↓Aa,JB,UI hb h.x8,hol,h0,F5,Yv];refine ⟨by omega,by omega,h1,?_⟩;have hend:∀i,(bfsAt s.S.length (fun x=>(solidOf s).S[x]!.X) i).2.length=i→i=(ordOf s).length:=fun i hi=>by
  have:=AdO h1 (N8 hb) hi;rw [show ordOf s=(bfsAt s.S.length (fun x=>(solidOf s).S[x]!.X) i).2 from this.symm];exact hi.symm
 have hpre:∀i,i≤s.S.length→(bfsAt s.S.length (fun x=>(solidOf s).S[x]!.X) i).2 <+: ordOf s:=fun i hi=>by
  have:=YT (n:=s.S.length) (nx:=fun x=>(solidOf s).S[x]!.X) (i:=i) (s.S.length-i);rw [show i+(s.S.length-i)=s.S.length by omega] at this;exact this
 have hbsucc:∀i,bfsAt s.S.length (fun x=>(solidOf s).S[x]!.X) (i+1)=if i<(bfsAt s.S.length (fun x=>(solidOf s).S[x]!.X) i).2.length then ((solidOf s).S[(bfsAt s.S.length (fun x=>(solidOf s).S[x]!.X) i).2[i]!]!.X).foldl visit (bfsAt s.S.length (fun x=>(solidOf s).S[x]!.X) i) else bfsAt s.S.length (fun x=>(solidOf s).S[x]!.X) i:=fun i=>rfl;have hond:=Adt hb h1;have holen:=SL hb h1;refine Ad (fun (i:Nat) σ=>i≤(bfsAt s.S.length (fun x=>(solidOf s).S[x]!.X) i).2.length∧∃z2 z3 a4 c4 z5 o6 o7 o8 o9 z16 a17 c17 z18 a19 c19 a20 c20 a21 c21 a22 c22 a23 c23 a24 c24,σ=⟨aT .undef 101 [(0,.yld 0),(1,.pfro [.lst (s.acts.map .str),.lst (s.S.map eSt)]),(3,.ptr 14 1 [] 0 0 0),(4,.ptr 16 1 [] 0 0 0),(5,.ptr 18 1 [] 0 0 0),(6,I i)],
  F5 s z2 z3 a4 c4 z5 i o6 o7 o8 o9++[⟨1,0,.own 1 [.lst ((Cp s).map Bo)]⟩,⟨1,0,.gone⟩,⟨1,z16,.own 1 [.own 1 ((bfsAt s.S.length (fun x=>(solidOf s).S[x]!.X) i).1.map Bo)]⟩,⟨a17,c17,.gone⟩,⟨1,z18,.own 1 [cellv .nils 1 ((bfsAt s.S.length (fun x=>(solidOf s).S[x]!.X) i).2.map eN)]⟩,⟨a19,c19,.gone⟩,⟨a20,c20,.gone⟩,⟨a21,c21,.gone⟩,⟨a22,c22,.gone⟩,⟨a23,c23,.gone⟩,⟨a24,c24,.gone⟩],[tLp (aT (.tup []) 104 l) none false]⟩) (fun i=>s.S.length+1-i) ?_ 0 ?_
 ·rintro i σ ⟨hi,z2,z3,a4,c4,z5,o6,o7,o8,o9,z16,a17,c17,z18,a19,c19,a20,c20,a21,c21,a22,c22,a23,c23,a24,c24,rfl⟩ N Qe hQe hN;have hV:=hvi i;have hVl:=hV.len;have hen:=hend i;have hpr:=hpre i (by omega);have hbs:=hbsucc i;have hso:=hsol i;generalize hp:bfsAt s.S.length (fun x=>(solidOf s).S[x]!.X) i=p at *;have hne:¬p.2.map eN = []:=by intro hc;rw [List.map_eq_nil_iff] at hc;have:=hV.pos;rw [hc] at this;simp at this
  by_cases hlt:i<p.2.length
  ·have hx:=hV.get hlt;have hh:=(hso _ (AJ hlt)).2;rw [if_pos hlt] at hbs;have hxi:=EN hpr hlt;simp only [go_sem,↓reduceIte,↓Aa,F5,Int.ofNat_lt,hlt,hne,eN,hx,eSt];have hst:=h.st _ hx;have hsb:=hb.st _ hx;have hAl:=h.alen hx;have hkx:ZX s p.2[i]! = ⟨keptL s p.2[i]!,[]⟩:=rfl;have hsx:(solidOf s).S[p.2[i]!]!.X=onlyX s.S[p.2[i]!]! (usedN (keptL s p.2[i]!)) s.S[p.2[i]!]!.X.length:=by
    rw [Ez hx];simp only [KJ,Ln];rw [if_neg (by rw [hh];simp)]
   have hkne:=W7 h hx hh;have hku:∀m,usedN (keptP s p.2[i]! m)<2 ^ 8:=fun m=>M8 fun v hv=>by
    obtain ⟨j,hj,e⟩:=getAt (Vs hv);have:=hst.a j hj;have h28:2 ^ s.acts.length≤2 ^ 8:=Nat.pow_le_pow_right (by omega) h8;rw [e] at this;omega
   have hks:=fun m hm=>@keptP_succ s p.2[i]! m hm;have hkl:=fun m=>@U6 s p.2[i]! m;have hka:=@VV s p.2[i]!;have hsxb:=N8 hb _ hx;have hXlen:s.S[p.2[i]!]!.X.length=s.acts.length:=hst.len;generalize hxe:p.2[i]! = x at *;generalize hye:s.S[x]! = y at *;refine Ad (fun (m:Nat) σ=>m≤y.A.length∧∃a20 c20 a21 c21 a22 c22,σ=⟨aT .undef 101 [(0,.yld 0),(1,.pfro [.lst (s.acts.map .str),.lst (s.S.map eSt)]),(3,.ptr 14 1 [] 0 0 0),(4,.ptr 16 1 [] 0 0 0),(5,.ptr 18 1 [] 0 0 0),(6,I i),(7,.ptr 19 (a19+1) [] 0 0 0),(8,Mo .nils 1 22 a22 ((keptP s x m).map I)),(9,I (usedN (keptP s x m):Nat)),(43,.lst (y.A.map I)),(44,I y.A.length),(45,I m)],
    F5 s z2 z3 a4 c4 z5 i o6 o7 o8 o9++[⟨1,0,.own 1 [.lst ((Cp s).map Bo)]⟩,⟨1,0,.gone⟩,⟨1,z16,.own 1 [.own 1 (p.1.map Bo)]⟩,⟨a17,c17,.gone⟩,⟨1,z18,.own 1 [cellv .nils 1 (p.2.map eN)]⟩,⟨a19+1,0,.own 2 [.agg [.lst (y.A.map I),.lst (y.X.map I)]]⟩,⟨a20,c20,.gone⟩,⟨a21,c21,.gone⟩,⟨a22,c22,Pa 1 ((keptP s x m).map I)⟩,⟨a23,c23,.gone⟩,⟨a24,c24,.gone⟩],[tLp (aT (.tup []) 104 l) none false]⟩) (fun m=>y.A.length-m) ?_ 0 ?_
   ·rintro m σ ⟨hm,a20,c20,a21,c21,a22,c22,rfl⟩ N2 Q2 hQ2 hN2;by_cases hlt2:m<y.A.length
    ·obtain ⟨t,ht,htl⟩:=hsb.nat hlt2;have hd:=Ae8 hst hlt2 (P:=inB (Cp s));have ht8:t<2 ^ 8:=by
      have:=(hst.a m hlt2).2;have h28:2 ^ s.acts.length≤2 ^ 8:=Nat.pow_le_pow_right (by omega) h8;omega
     have hmu:=hku m;have hml:=hkl m;have hms:=hks m hlt2;simp only [go_sem,↓reduceIte,↓Aa,F5,Int.ofNat_lt,hlt2,ht,Ab hlt2 (by omega)];refine AdH t htl (by simp only [go_sem,↓reduceIte,↓Aa]) (fun a hh'=>hh'=F5 s z2 z3 a4 c4 z5 i o6 o7 o8 o9++[⟨1,0,.own 1 [.lst ((Cp s).map Bo)]⟩,⟨1,0,.gone⟩,⟨1,z16,.own 1 [.own 1 (p.1.map Bo)]⟩,⟨a17,c17,.gone⟩,⟨1,z18,.own 1 [cellv .nils 1 (p.2.map eN)]⟩,⟨a19+1,0,.own 2 [.agg [.lst (y.A.map I),.lst (y.X.map I)]]⟩,⟨a20+1,0,.own 1 [Bo (decide (∀b<a,t.testBit b=true→(Cp s)[y.X[b]!.toNat]! = false))]⟩,⟨a21,c21,.gone⟩,⟨a22,c22,Pa 1 ((keptP s x m).map I)⟩,⟨a23,c23,.gone⟩,⟨a24,c24,.gone⟩]) ?_ ?_ ?_ ?_ ?_
     ·rintro a hh' rfl;simp only [F5,List.length_append,List.length_cons,List.length_nil]
     ·simp only [go_sem,↓reduceIte,↓Aa,F5];rw [decide_eq_true (fun b hb=>absurd hb (by omega))]
     ·rintro a hh' hbit rfl;rw [show decide (∀b<a+1,t.testBit b=true→(Cp s)[y.X[b]!.toNat]! = false)=decide (∀b<a,t.testBit b=true→(Cp s)[y.X[b]!.toNat]! = false) from
       decide_eq_decide.2 ⟨fun g b hb=>g b (by omega),fun g=>Ae g (fun g2=>by rw [hbit] at g2;cases g2)⟩]
     ·rintro a hh' hbit ha62 rfl;have han:a<s.acts.length:=AO (n:=t) (by have:=hst.a m hlt2;rw [ht] at this;omega) hbit;have hX0:=hst.has m hlt2 a han (by rw [ht];simpa [hasA] using hbit);have hXn:=hst.x a han;have hhl:(Cp s).length=s.S.length:=by simp [Cp]
      simp only [go_sem,↓reduceIte,↓Aa,F5,Kw,Kz];refine ⟨fun hf=>⟨by omega,hX0,by omega,?_⟩,fun hf=>?_⟩
      ·have e:decide (∀b<a+1,t.testBit b=true→(Cp s)[y.X[b]!.toNat]! = false) = !(Cp s)[y.X[a]!.toNat]!:=by
        cases hv:(Cp s)[y.X[a]!.toNat]! with
        | true=>exact decide_eq_false (fun g=>by have:=g a (by omega) hbit;rw [hv] at this;cases this)
        | false=>exact decide_eq_true (Ae hf (fun _=>hv))
       rw [e]
      ·rw [show decide (∀b<a+1,t.testBit b=true→(Cp s)[y.X[b]!.toNat]! = false)=false from decide_eq_false (fun g=>hf (fun b hb=>g b (by omega)))]
     ·rintro a hh' hlta rfl;have hfd:(∀b<a,t.testBit b=true→(Cp s)[y.X[b]!.toNat]! = false)↔¬Dies y (inB (Cp s)) (t:Int):=by
       rw [ht] at hd;rw [hd];constructor
       ·rintro g ⟨b,hb1,hb2⟩;have hb3:t.testBit b=true:=by simpa [hasA] using hb1
        have:=g b (AO hlta hb3) hb3;unfold inB at hb2;rw [hb2] at this;cases this
       ·intro g b hb hb1;cases hv:(Cp s)[y.X[b]!.toNat]! with
        | false=>rfl
        | true=>exact absurd ⟨b,by simpa [hasA] using hb1,hv⟩ g
      rw [ht] at hms;simp only [go_sem,↓reduceIte,↓Aa,F5,Ab hlt2 (show y.A.length≤1000000000 by omega)];refine ⟨fun hf=>⟨by omega,hN2 (m+1) _ (by omega) ⟨by omega,?_⟩⟩,fun hf=>hN2 (m+1) _ (by omega) ⟨by omega,?_⟩⟩
      ·rw [if_neg (hfd.1 hf)] at hms;simp only [go_sem,↓reduceIte,↓Aa,F5,hms,JA,Int.toNat_natCast,L5 (show usedN (keptP s x m)<2 ^ 63 by omega) (show t<2 ^ 63 by omega),List.map_append,List.map_cons,List.map_nil];repeat apply Exists.intro
       rfl
      ·rw [if_pos (Classical.not_not.1 (fun g=>hf (hfd.2 g)))] at hms;simp only [go_sem,↓reduceIte,↓Aa,F5,hms];repeat apply Exists.intro
       rfl
    ·have hml:m=y.A.length:=by omega
     subst hml hQ2;have hku2:=hku y.A.length;rw [hka] at hku2 ⊢;simp only [go_sem,↓reduceIte,↓Aa,F5,Int.ofNat_lt,hlt2];have hkm:¬(keptL s x).map I = []:=by intro hc;rw [List.map_eq_nil_iff] at hc;exact hkne hc
     have hVa:∀a,VI s.S.length ((onlyX y (usedN (keptL s x)) a).foldl visit p):=by
      intro a;induction a with
      | zero=>exact hV
      | succ a ih =>
        rw [onlyX_vis];split
        ·rename_i hu;refine ih.visit ?_;obtain ⟨v,hv,hbv⟩:=DI.1 hu;obtain ⟨j,hj,e⟩:=getAt (List.mem_filter.1 (show v∈s.S[x]!.A.filter _ from hv)).1;rw [hye] at hj e;have han:a<s.acts.length:=AO (n:=v.toNat) (by have:=hst.a j hj;rw [e] at this;omega) hbv;exact (hst.x a han).2
        ·exact ih
     refine AdH (usedN (keptL s x)) (by omega) (by simp only [go_sem,↓reduceIte,↓Aa]) (fun a hh'=>∃z16 z18 o23 a24 c24,hh'=F5 s z2 z3 a4 c4 z5 i o6 o7 o8 o9++[⟨1,0,.own 1 [.lst ((Cp s).map Bo)]⟩,⟨1,0,.gone⟩,⟨1,z16,.own 1 [.own 1 (((onlyX y (usedN (keptL s x)) a).foldl visit p).1.map Bo)]⟩,⟨a17,c17,.gone⟩,⟨1,z18,.own 1 [cellv .nils 1 (((onlyX y (usedN (keptL s x)) a).foldl visit p).2.map eN)]⟩,⟨a19+1,0,.own 2 [.agg [.lst (y.A.map I),.lst (y.X.map I)]]⟩,⟨a20,c20,.gone⟩,⟨a21,c21,.gone⟩,⟨a22,c22,Pa 1 ((keptL s x).map I)⟩,o23,⟨a24,c24,.gone⟩]) ?_ ?_ ?_ ?_ ?_
     ·rintro a hh' ⟨_,_,_,_,_,rfl⟩;simp only [F5,List.length_append,List.length_cons,List.length_nil]
     ·refine ⟨z16,z18,⟨a23,c23,.gone⟩,a24,c24,?_⟩;simp only [go_sem,↓reduceIte,↓Aa,F5,onlyX,List.range_zero,List.map_nil,List.foldl_nil]
     ·rintro a hh' hbit ⟨z16,z18,o23,a24,c24,rfl⟩;refine ⟨z16,z18,o23,a24,c24,?_⟩;rw [onlyX_vis,if_neg (by rw [hbit];simp)]
     ·rintro a hh' hbit ha62 ⟨z16,z18,o23,a24,c24,rfl⟩;have hVx:=hVa a;have hVy:=@onlyX_vis y (usedN (keptL s x)) a p;rw [if_pos hbit] at hVy;generalize (onlyX y (usedN (keptL s x)) a).foldl visit p=w at *;obtain ⟨v,hv,hbv⟩:=DI.1 hbit;obtain ⟨j,hj,e⟩:=getAt (List.mem_filter.1 (show v∈s.S[x]!.A.filter _ from hv)).1;rw [hye] at hj e;have han:a<s.acts.length:=AO (n:=v.toNat) (by have:=hst.a j hj;rw [e] at this;omega) hbv;have hX0:=hst.has j hj a han (by rw [e];exact hbv);have hXn:=hst.x a han;obtain ⟨k,hk⟩:∃k:Nat,y.X[a]! = k:=⟨y.X[a]!.toNat,by omega⟩;have hkn:k<s.S.length:=by omega
      have hkw:k<w.1.length:=by rw [hVx.l];exact hkn
      have haX:a<y.X.length:=by omega
      have hvis:visit w (k:Int)=if w.1[k]! = false then (w.1.set k true,w.2++[k]) else w:=by
       unfold visit;rw [Int.toNat_natCast];by_cases hf:w.1[k]! = false
       ·rw [if_pos ⟨by omega,hf⟩,if_pos hf]
       ·rw [if_neg (fun g=>hf g.2),if_neg hf]
      rw [hk,hvis] at hVy;have hwl:=hVx.len;simp only [go_sem,↓reduceIte,↓Aa,F5,Ky,Kv,Ai7,haX,hk,hkw,Kh];refine ⟨by omega,fun hf=>⟨by omega,by omega,?_⟩,fun hf=>?_⟩
      ·rw [if_pos hf] at hVy;simp only [hVy,List.map_append,List.map_cons,List.map_nil,eN,cellv_app];repeat apply Exists.intro
       rfl
      ·rw [if_neg (by rw [hf];simp)] at hVy;simp only [hVy];repeat apply Exists.intro
       rfl
     ·rintro a hh' hlta ⟨z16,z18,o23,a24,c24,rfl⟩;have hVx:=hVa a;have hpx:=FC (onlyX y (usedN (keptL s x)) a) (p:=p);have hany:(onlyX y (usedN (keptL s x)) a).foldl visit p=((solidOf s).S[x]!.X).foldl visit p:=by
       rw [hsx];refine Ac2 hlta ?_;rw [hXlen];exact M8 fun v hv=>by
        obtain ⟨j,hj,e⟩:=getAt (List.mem_filter.1 (show v∈s.S[x]!.A.filter _ from hv)).1;rw [hye] at hj e;have:=hst.a j hj;rw [e] at this;omega
      rw [←hany] at hbs;generalize (onlyX y (usedN (keptL s x)) a).foldl visit p=w at *;have hwl:=hVx.len;have hpl:=hpx.length_le;have hiw:i<w.2.length:=by omega
      have hwi:w.2[i]! = x:=by rw [EN hpx hlt];exact hxe
      have hnw:¬w.2.map eN = []:=by intro hc;rw [List.map_eq_nil_iff] at hc;rw [hc] at hiw;simp at hiw
      simp only [go_sem,↓reduceIte,↓Aa,F5,hnw,hkm,hiw,hwi,eN];refine ⟨by omega,?_⟩;refine Ag9 (lp:=tLp (aT (.tup []) 104 l) none false) rfl rfl rfl rfl ?_;have hpll:=@El (ordOf s) s.S.length i;have hio:i<(ordOf s).length:=by have:=hpr.length_le;omega
      have hps:=Sg (n:=s.S.length) hond hio;have hoi:(ordOf s)[i]! = x:=by rw [hxi]
      rw [hoi] at hps;have htl:(List.take i (ordOf s)).length=i:=by rw [List.length_take];omega
      simp only [go_sem,↓reduceIte,↓Aa,Aar,Ad1,tLp,Cn,B4,hpll,hx,YO,hps,eN,Me,Option.isNone_none,List.length_map,htl,l1,l2,l3,l4,l5,l6];have hiw2:IntKind.i64.wrap ((i:Int)+1)=((i+1:Nat):Int):=by rw [L7]<;>omega
      refine ⟨by omega,by omega,by omega,hN (i+1) _ (by omega) ⟨by rw [hbs];omega,?_⟩⟩;have hto:List.take (i+1) (ordOf s)=List.take i (ordOf s)++[x]:=by rw [List.take_succ_eq_append_getElem hio,←hoi,getElem!_pos _ i hio]
      rw [hbs];simp only [go_sem,↓reduceIte,↓Aa,F5,hiw2,hto,List.map_append,List.map_cons,List.map_nil,ZX,rowS,eN];repeat apply Exists.intro
      rfl
   ·refine ⟨by omega,?_⟩;have hk0:keptP s x 0 = []:=List.eq_nil_of_length_eq_zero (by have:=hkl 0;omega);simp only [go_sem,↓reduceIte,↓Aa,F5,hk0,usedN,List.foldl_nil,List.map_nil];repeat apply Exists.intro
    rfl
  ·have hil:i=p.2.length:=by omega
   have hen2:=hen hil.symm;subst hQe;simp only [go_sem,↓reduceIte,↓Aa,F5,Int.ofNat_lt,hlt,hne,List.length_map];refine ⟨.nrm,rfl,?_⟩;have:=hQ z2 z3 a4 c4 z5 o6 o7 o8 o9;rw [←hen2] at this;exact this
 ·refine ⟨by simp [bfsAt],?_⟩;simp only [go_sem,↓reduceIte,↓Aa,F5,bfsAt,List.map_cons,List.map_nil,eN,List.take_zero,El];repeat apply Exists.intro
  rfl
noncomputable def rcell (s:Spc)(i j:Nat):AV:=if j<i then .agg [cellv .nils 1 ((keptL s (ordOf s)[j]!).map I),.own 1 ((JI s (ordOf s)[j]!).X.map I)] else .agg [cellv .nils 1 ((keptL s (ordOf s)[j]!).map I),.nils]
theorem ZV {s:Spc}{i:Nat}:rcell s i i = .agg [cellv .nils 1 ((keptL s (ordOf s)[i]!).map I),.nils]:=by simp [rcell]
theorem Ac9 {s:Spc}{n i:Nat}:((List.range n).map (rcell s i)).set i (.agg [cellv .nils 1 ((keptL s (ordOf s)[i]!).map I),.own 1 ((JI s (ordOf s)[i]!).X.map I)])=(List.range n).map (rcell s (i+1)):=by
 apply List.ext_getElem?;intro j;rw [List.getElem?_set];by_cases h:i=j
 ·subst h;by_cases hl:i<n<;>simp [hl,rcell]
 ·by_cases hl:j<n
  ·have e:(j<i)=(j<i+1):=propext ⟨fun _=>by omega,fun _=>by omega⟩;simp [h,hl,rcell,e]
  ·simp [h,hl]
theorem Qt {s:Spc}:(((ordOf s).take (ordOf s).length).map (ZX s)).map rowS=(List.range (ordOf s).length).map (rcell s 0):=by
 rw [List.take_length];apply List.ext_getElem (by simp);intro j h1 h2;simp at h1;simp [rcell,rowS,ZX,cellv_nil,h1]
theorem Vo {s:Spc}:((ordOf s).map (ZX s)).map rowS=(List.range (ordOf s).length).map (rcell s 0):=by
 rw [←Qt,List.take_length]
theorem AbK {s:Spc}(hA:∀x∈ordOf s,Ln s x=keptL s x):((List.range (ordOf s).length).map (rcell s (ordOf s).length)).map frz=(Am s).S.map eSt:=by
 have h:∀l:List Int,(l.map I).map frz=l.map I:=fun l=>by rw [List.map_map];rfl
 apply List.ext_getElem (by simp [Am]);intro j h1 h2;simp at h1;have e:=hA (ordOf s)[j]! (AJ h1);rw [List.getElem_map,List.getElem_map,List.getElem_range,rcell,if_pos h1];simp only [Am,List.getElem_map];rw [←getElem!_pos (ordOf s) j h1];simp only [go_sem,↓reduceIte,↓Aa,h,eSt,JI,KJ,e]
def LH (l:List Nat)(y:Stt)(u n a:Nat):List Int:=(List.range n).map fun b=>if b<a∧u.testBit b=true then placeX l y.X[b]! else -1
theorem Uv {l:List Nat}{y:Stt}{u n a:Nat}:(LH l y u n a).length=n:=by simp [LH]
theorem Aas {l:List Nat}{y:Stt}{u n:Nat}:LH l y u n 0=List.replicate n (-1):=by
 apply List.ext_getElem (by simp [LH]);intro j h1 h2;simp [LH]
theorem AaL {l:List Nat}{y:Stt}{u n a:Nat}(h:u.testBit a=false):LH l y u n (a+1)=LH l y u n a:=by
 unfold LH;refine List.map_congr_left (fun b _=>?_);by_cases hb:b<a
 ·have:b<a+1:=by omega
  simp [hb,this]
 ·by_cases e:b=a
  ·subst e;simp [h]
  ·have:¬b<a+1:=by omega
   simp [hb,this]
theorem AbY {l:List Nat}{y:Stt}{u n a:Nat}(h:u.testBit a=true):(LH l y u n a).set a (placeX l y.X[a]!)=LH l y u n (a+1):=by
 apply List.ext_getElem?;intro b;rw [List.getElem?_set,Uv];have e:∀ {c},(LH l y u n c)[b]? = if b<n then some (if b<c∧u.testBit b=true then placeX l y.X[b]! else -1) else none:=fun {c}=>by
  by_cases hb:b<n<;>simp [LH,hb]
 rw [e,e];by_cases hab:a=b
 ·subst hab;by_cases hn:a<n<;>simp [hn,h]
 ·have:(b<a)=(b<a+1):=propext ⟨fun _=>by omega,fun _=>by omega⟩;simp [hab,this]
theorem AcC {l:List Nat}{y:Stt}{u n a:Nat}(h:u<2 ^ a)(hX:y.X.length=n):LH l y u n a=(onlyX y u y.X.length).map (placeX l):=by
 rw [hX];unfold LH onlyX;rw [List.map_map];refine List.map_congr_left (fun b hb=>?_);simp only [Function.comp];by_cases hu:u.testBit b=true
 ·rw [if_pos ⟨AO h hu,hu⟩,if_pos hu]
 ·rw [if_neg (fun g=>hu g.2),if_neg hu];simp [placeX]
theorem AaA (s:Spc)(h:FY s):Fn G A3 [eSp s] (.tup [eSp (trimA s).1,.lst ((trimA s).2.map eN)]):=by
 have hz:=h.sz;have hb:=h.b hz;have h1:0<s.S.length:=h.s1;have h8:=Ax h.acts;have hS:=h.s2;have hol:=XM h1;cases h0:(Cp s)[0]! with
 | true =>
   have e:trimA s=(B5 s.acts,[]):=by unfold trimA;rw [if_pos h0]
   rw [e];refine FnP.mk' KY rfl rfl ?_;simp only [go_sem,↓reduceIte,↓Aa,H5,eSp,TZ (show s.acts.length≤1048576 by omega),AgP];refine ⟨by omega,?_⟩;refine wp_rngf (g:=BD) (cs:=[.pfro [.lst (s.acts.map .str),.lst (s.S.map eSt)]]) (by simp only [go_sem,↓reduceIte,↓Aa]) (Lk LS rfl ?_);rw [Jn (by simp)];simp only [go_sem,↓reduceIte,↓Aa,JB,UI hb h.x8,hol,h0];refine ⟨.nrm,rfl,?_⟩;simp only [go_sem,↓reduceIte,↓Aa,AcZ h8,eSp]
 | false =>
   have e:trimA s=(Am s,ordOf s):=by unfold trimA;rw [if_neg (by rw [h0];simp)]
   rw [e];refine FnP.mk' KY rfl rfl ?_;simp only [go_sem,↓reduceIte,↓Aa,H5,eSp,TZ (show s.acts.length≤1048576 by omega),AgP];refine ⟨by omega,?_⟩;have hpl0:(CN (ordOf s) s.S.length 0).map eN=List.replicate s.S.length (AV.int .i64 0):=by
    apply List.ext_getElem (by simp [CN]);intro j h1 h2;simp [CN,eN]
   have hloop:=Adw s h h0;simp only [F5,hpl0,List.take_zero,List.map_nil,cellv_nil] at hloop;refine hloop _ rfl rfl rfl rfl rfl rfl rfl (fun z2 z3 a4 c4 z5 o6 o7 o8 o9=>?_);have hop:=KR hb h1;have holen:=SL hb h1;have hond:=Adt hb h1;have hne:¬(ordOf s).map eN = []:=by intro hc;rw [List.map_eq_nil_iff] at hc;rw [hc] at hop;simp at hop
   have hlenz:¬((((ordOf s).length:Nat):Int)=0):=by omega
   have holt:∀x∈ordOf s,x<s.S.length∧(Cp s)[x]! = false:=Qa h h0 s.S.length;have hcl:=LB hb h1;have hsA:∀x∈ordOf s,Ln s x=keptL s x:=fun x hx=>by unfold Ln;rw [if_neg (by rw [(holt x hx).2];simp)]
   have hrow0:cellv .nils 2 ((List.range (ordOf s).length).map (rcell s 0)) = .own 2 ((List.range (ordOf s).length).map (rcell s 0)):=by
    obtain ⟨n,hn⟩:∃n,(ordOf s).length=n+1:=⟨(ordOf s).length-1,by omega⟩;rw [hn,List.range_succ,List.map_append,List.map_cons,List.map_nil,cellv_app]
   have hcel:∀v:List AV,¬v = []→cellv .nils 1 v = .own 1 v:=fun v hv=>by
    cases v with
    | nil=>exact absurd rfl hv
    | cons a r=>rfl
   have hbeq:((((ordOf s).length:Nat):Int)==0)=false:=by simp only [beq_eq_false_iff_ne];exact hlenz
   simp only [go_sem,↓reduceIte,↓Aa,Qt,Vo,List.take_length,hne,hrow0,List.length_map,hbeq];refine Ad (fun (i:Nat) σ=>i≤(ordOf s).length∧∃z2 z5 a10 c10 a11 c11 a12 c12 a13 c13,σ=⟨aT .undef 104 [(1,.ptr 0 1 [] 0 0 0),(2,.ptr 1 1 [] 0 0 0),(3,.nils),(4,.ptr 2 1 [] 0 0 0),(5,.ptr 3 1 [] 0 0 0),(6,.ptr 5 1 [] 0 0 0),(50,On .nils 1 3 1 [(0,0)] z3 ((ordOf s).map eN)),(51,I (ordOf s).length),(52,I i)],
    [⟨1,0,.own 2 [.agg [.lst (s.acts.map .str),.lst (s.S.map eSt)]]⟩,⟨1,0,.own 2 [.agg [.nils,.nils]]⟩,⟨1,z2,.own 2 [.agg [.lst (s.acts.map .str),.own 2 ((List.range (ordOf s).length).map (rcell s i))]]⟩,
     ⟨1,z3,.own 1 [cellv .nils 1 ((ordOf s).map eN)]⟩,⟨a4,c4,.gone⟩,⟨1,z5,.own 1 [.own 1 ((CN (ordOf s) s.S.length (ordOf s).length).map eN)]⟩,o6,o7,o8,o9,⟨a10,c10,.gone⟩,⟨a11,c11,.gone⟩,⟨a12,c12,.gone⟩,⟨a13,c13,.gone⟩],[]⟩) (fun i=>(ordOf s).length-i) ?_ 0 ?_
   ·rintro i σ ⟨hi,z2,z5,a10,c10,a11,c11,a12,c12,a13,c13,rfl⟩ N Q hQ hN;by_cases hlt:i<(ordOf s).length
    ·have hmem:=AJ hlt;obtain ⟨hx,hh⟩:=holt _ hmem;have hst:=h.st _ hx;have hAl:=h.alen hx;have hkne:=W7 h hx hh;have hkm:¬(keptL s (ordOf s)[i]!).map I = []:=by intro hc;rw [List.map_eq_nil_iff] at hc;exact hkne hc
     have hkl:(keptL s (ordOf s)[i]!).length≤256:=Nat.le_trans (List.length_filter_le _ _) hAl;have hrs:=@ZV s i;have hrset:=@Ac9 s (ordOf s).length i;simp only [go_sem,↓reduceIte,↓Aa,Int.ofNat_lt,hlt,hne,eN,List.length_range,Qz hlt,hrs,hkm];have hxX:=hst.len;have hclx:=hcl _ hmem;rw [Ez hx] at hclx;have htS:(JI s (ordOf s)[i]!).X=(onlyX s.S[(ordOf s)[i]!]! (usedN (keptL s (ordOf s)[i]!)) s.S[(ordOf s)[i]!]!.X.length).map (placeX (ordOf s)):=by
      simp only [JI,KJ];rw [hsA _ hmem]
     have hsolX:(KJ s (ordOf s)[i]!).X=onlyX s.S[(ordOf s)[i]!]! (usedN (keptL s (ordOf s)[i]!)) s.S[(ordOf s)[i]!]!.X.length:=by
      simp only [KJ];rw [hsA _ hmem]
     have hkm2:∀v∈keptL s (ordOf s)[i]!,v∈s.S[(ordOf s)[i]!]!.A:=fun v hv=>(List.mem_filter.1 hv).1;generalize hxe:(ordOf s)[i]! = x at *;generalize hye:s.S[x]! = y at *;have h28:2 ^ s.acts.length≤2 ^ 8:=Nat.pow_le_pow_right (by omega) h8;have hkb:∀v∈keptL s x,0≤v∧v.toNat<2 ^ 8:=fun v hv=>by
      obtain ⟨j,hj,e⟩:=getAt (hkm2 v hv);have:=hst.a j hj;rw [e] at this;omega
     have hul:∀m,usedN ((keptL s x).take m)<2 ^ 8:=fun m=>M8 fun v hv=>(hkb v (List.mem_of_mem_take hv)).2;refine Ad (fun (m:Nat) σ=>m≤(keptL s x).length∧σ=⟨aT .undef 104 [(1,.ptr 0 1 [] 0 0 0),(2,.ptr 1 1 [] 0 0 0),(3,.nils),(4,.ptr 2 1 [] 0 0 0),(5,.ptr 3 1 [] 0 0 0),(6,.ptr 5 1 [] 0 0 0),(9,I i),(10,.ptr 10 (a10+1) [] 0 0 0),(11,I (usedN ((keptL s x).take m):Nat)),(50,On .nils 1 3 1 [(0,0)] z3 ((ordOf s).map eN)),(51,I (ordOf s).length),(52,I i),(62,On .nils 1 2 1 [(0,1),(i,0)] z2 ((keptL s x).map I)),(63,I (keptL s x).length),(64,I m)],
      [⟨1,0,.own 2 [.agg [.lst (s.acts.map .str),.lst (s.S.map eSt)]]⟩,⟨1,0,.own 2 [.agg [.nils,.nils]]⟩,⟨1,z2,.own 2 [.agg [.lst (s.acts.map .str),.own 2 ((List.range (ordOf s).length).map (rcell s i))]]⟩,
      ⟨1,z3,.own 1 [cellv .nils 1 ((ordOf s).map eN)]⟩,⟨a4,c4,.gone⟩,⟨1,z5,.own 1 [.own 1 ((CN (ordOf s) s.S.length (ordOf s).length).map eN)]⟩,o6,o7,o8,o9,⟨a10+1,0,.own 1 [I x]⟩,⟨a11,c11,.gone⟩,⟨a12,c12,.gone⟩,⟨a13,c13,.gone⟩],[]⟩) (fun m=>(keptL s x).length-m) ?_ 0 ?_
     ·rintro m σ ⟨hm,rfl⟩ N2 Q2 hQ2 hN2;by_cases hlt2:m<(keptL s x).length
      ·have hv:=hkb _ (AJ hlt2);obtain ⟨t,ht⟩:∃t:Nat,(keptL s x)[m]! = t:=⟨(keptL s x)[m]!.toNat,by omega⟩;have hu1:=hul m;rw [ht,Int.toNat_natCast] at hv;simp only [go_sem,↓reduceIte,↓Aa,Int.ofNat_lt,hlt2,hrs,hkm,List.length_range,Qz hlt,hlt,ht,Ab hlt2 (by omega),L5 (show usedN ((keptL s x).take m)<2 ^ 63 by omega) (show t<2 ^ 63 by omega)];refine hN2 (m+1) _ (by omega) ⟨by omega,?_⟩;rw [List.take_succ_eq_append_getElem hlt2,JA,←getElem!_pos (keptL s x) m hlt2,ht,Int.toNat_natCast];simp only [go_sem,↓reduceIte,↓Aa]
      ·have hml:m=(keptL s x).length:=by omega
       subst hml hQ2;have hu1:=hul (keptL s x).length;rw [List.take_length] at hu1 ⊢;simp only [go_sem,↓reduceIte,↓Aa,Int.ofNat_lt,hlt2,hkm,AfC h8];have hub:∀a,(usedN (keptL s x)).testBit a=true→a<s.acts.length∧0≤y.X[a]!∧y.X[a]! < (s.S.length:Int)∧y.X[a]!.toNat∈ordOf s:=fun a ha=>by
        obtain ⟨v,hv,hbv⟩:=DI.1 ha;obtain ⟨j,hj,e⟩:=getAt (hkm2 v hv);have han:a<s.acts.length:=AO (n:=v.toNat) (by have:=hst.a j hj;rw [e] at this;omega) hbv;have hX0:=hst.has j hj a han (by rw [e];exact hbv);refine ⟨han,hX0,(hst.x a han).2,hclx _ ?_ hX0⟩;rw [hsolX];have:(onlyX y (usedN (keptL s x)) y.X.length)[a]!∈onlyX y (usedN (keptL s x)) y.X.length:=AJ (by rw [C0];omega);rw [Mt (by omega),if_pos ha] at this;exact this
       have hr0:List.replicate s.acts.length (AV.int .i64 (-1))=(LH (ordOf s) y (usedN (keptL s x)) s.acts.length 0).map I:=by rw [Aas,List.map_replicate]
       rw [hr0];refine AdH (usedN (keptL s x)) (by omega) (by simp only [go_sem,↓reduceIte,↓Aa]) (fun a hh'=>hh' = [⟨1,0,.own 2 [.agg [.lst (s.acts.map .str),.lst (s.S.map eSt)]]⟩,⟨1,0,.own 2 [.agg [.nils,.nils]]⟩,⟨1,z2,.own 2 [.agg [.lst (s.acts.map .str),.own 2 ((List.range (ordOf s).length).map (rcell s i))]]⟩,
      ⟨1,z3,.own 1 [cellv .nils 1 ((ordOf s).map eN)]⟩,⟨a4,c4,.gone⟩,⟨1,z5,.own 1 [.own 1 ((CN (ordOf s) s.S.length (ordOf s).length).map eN)]⟩,o6,o7,o8,o9,⟨a10+1,0,.own 1 [I x]⟩,⟨a11+1,0,.gone⟩,⟨a12+1,0,.gone⟩,⟨a13+1,1,.own 1 [.own 1 ((LH (ordOf s) y (usedN (keptL s x)) s.acts.length a).map I)]⟩]) ?_ ?_ ?_ ?_ ?_
       ·rintro a hh' rfl;rfl
       ·simp only [go_sem,↓reduceIte,↓Aa]
       ·rintro a hh' hbit rfl;rw [AaL hbit]
       ·rintro a hh' hbit ha62 rfl;obtain ⟨han,hX0,hXn,hmo⟩:=hub a hbit;obtain ⟨k,hk⟩:∃k:Nat,y.X[a]! = k:=⟨y.X[a]!.toNat,by omega⟩;have hps:=AbY (l:=ordOf s) (y:=y) (n:=s.acts.length) hbit;have hpx:placeX (ordOf s) y.X[a]! = ((ordOf s).idxOf k:Int):=by unfold placeX;rw [if_pos hX0,hk,Int.toNat_natCast]
        rw [hpx] at hps;have hkn:k<s.S.length:=by omega
        have hkp:k<(CN (ordOf s) s.S.length (ordOf s).length).length:=by rw [El];exact hkn
        have hpg:(CN (ordOf s) s.S.length (ordOf s).length)[k]! = (ordOf s).idxOf k:=by rw [R9 hkn,List.take_length,if_pos (by rw [hk,Int.toNat_natCast] at hmo;exact hmo)]
        have haX:a<y.X.length:=by omega
        have hmapI:∀(q:List Int) (j v:Nat),(q.map I).set j (.int .i64 (v:Nat))=(q.set j (v:Nat)).map I:=fun q j v=>by rw [List.map_set]
        simp only [go_sem,↓reduceIte,↓Aa,JV,J5,hx,hye,eSt,haX,hk,hkn,hkp,eN,hpg,Uv,han,hmapI,hps];exact ⟨by omega,by omega⟩
       ·rintro a hh' hlta rfl;have hne2:=AcC (l:=ordOf s) hlta hxX;rw [hne2,←htS];simp only [go_sem,↓reduceIte,↓Aa,List.length_range,Qz hlt,hrs,hlt,hrset,Ab hlt (show (ordOf s).length≤1000000000 by omega)];refine ⟨by omega,hN (i+1) _ (by omega) ⟨by omega,?_⟩⟩;simp only [go_sem,↓reduceIte,↓Aa];repeat apply Exists.intro
        rfl
     ·refine ⟨by omega,?_⟩;simp only [go_sem,↓reduceIte,↓Aa,List.take_zero,usedN,List.foldl_nil]
    ·have hil:i=(ordOf s).length:=by omega
     subst hil hQ;have hre:=AbK hsA;simp only [go_sem,↓reduceIte,↓Aa,Int.ofNat_lt,hlt,hne];have he:((ordOf s).map eN).map frz=(ordOf s).map eN:=by rw [List.map_map];rfl
     rw [hre,he];rfl
   ·refine ⟨by omega,?_⟩;simp only [go_sem,↓reduceIte,↓Aa];repeat apply Exists.intro
    rfl
theorem trimmed_r {s:Spc}(h:FY s){roots:List Nat}{b:Nat}{ss:List Nat}{σ:St}{k:AV→St→Prop} :
 callT G A3 [.agg [.lst (s.acts.map .str),.lst (s.S.map eSt)]] true roots b ss σ k=k (.tup [eSp (trimA s).1,.lst ((trimA s).2.map eN)]) σ:=(AaA s h).rule
structure PBig (p:Plan):Prop where
 a:p.A.length≤140737488355328
 x:p.X.length≤140737488355328
 y:∀i<p.X.length,p.X[i]!.length≤140737488355328
structure FBig (f:Fam):Prop where
 a:f.acts.length≤140737488355328
 s:f.S.length≤140737488355328
 p:∀i<f.S.length,PBig f.S[i]!
theorem FnP.flatB {f:FuncId}{xs:List AV}{P:Prop}(h:FnP G f xs fun rs h=>∃v,packV (treeBL 0 h rs)=Bo v∧(v=true→P)∧rs.all AV.flats=true):∃v,FnT G f xs (Bo v)∧(v=true→P):=by
 obtain ⟨F,n,rs,σ1,hf,h1,h2,h3,h4,hr,v,hR,hP,hfl⟩:=h;exact ⟨v,⟨F,n,rs,σ1,hf,h1,h2,h3,h4,hr,hR,hfl⟩,hP⟩
theorem YQ {b:Bool}{P:Prop}:(∃v,AV.bool b=Bo v∧(v=true→P))=(b=true→P):=by
 apply propext;constructor
 ·rintro ⟨v,hv,h⟩;cases hv;exact h
 ·intro h;exact ⟨b,rfl,h⟩
def PE (f:Fam)(i:Nat)(c:Int):Prop:=(f.acts.length:Int)≤c∧(f.S.length:Int)≤c∧∀j<i,(f.S[j]!.A.length:Int)≤c∧(f.S[j]!.X.length:Int)≤c∧∀m<f.S[j]!.X.length,(f.S[j]!.X[m]!.length:Int)≤c
theorem PE.mono {f:Fam}{i:Nat}{c d:Int}(h:PE f i c)(hd:c≤d):PE f i d :=
 ⟨by have:=h.1;omega,by have:=h.2.1;omega,fun j hj=>⟨by have:=(h.2.2 j hj).1;omega,by have:=(h.2.2 j hj).2.1;omega,fun m hm=>by have:=(h.2.2 j hj).2.2 m hm;omega⟩⟩
theorem PE.sz {f:Fam}{c:Int}(h:PE f f.S.length c)(hc:c≤1000):FSz f :=
 ⟨by have:=h.1;omega,by have:=h.2.1;omega,fun j hj=>⟨by have:=(h.2.2 j hj).1;omega,by have:=(h.2.2 j hj).2.1;omega,fun m hm=>by have:=(h.2.2 j hj).2.2 m hm;omega⟩⟩
structure SpBig (s:Spc):Prop where
 fa:s.acts.length≤140737488355328
 fs:s.S.length≤140737488355328
 fx:∀i<s.S.length,s.S[i]!.A.length≤140737488355328∧s.S[i]!.X.length≤140737488355328
 fi:SpI s
def AjE (s:Spc)(i:Nat)(c:Int):Prop:=(s.acts.length:Int)≤c∧(s.S.length:Int)≤c∧∀j<i,(s.S[j]!.A.length:Int)≤c∧(s.S[j]!.X.length:Int)≤c
theorem AfM (s:Spc)(hs:SpBig s)(K:Int)(h0:0≤K)(hK:K≤1000000):∃v,FnT G JS [eSp s,I K] (Bo v)∧(v=true→SpSz s):=by
 refine FnP.flatB (FnP.mk' AbZ rfl rfl ?_);have ha:=hs.fa;have hS:=hs.fs;have w0:IntKind.i64.wrap ((s.acts.length:Int)+s.S.length)=(s.acts.length:Int)+s.S.length:=by rw [L7]<;>omega
 simp only [go_sem,↓reduceIte,↓Aa,Vv,eSp,w0];refine Ad (fun (i:Nat) σ=>i≤s.S.length∧∃c:Int,0≤c∧c≤562949953421312∧(c≤K→AjE s i c)∧σ=⟨aT .undef 46 [(1,I K),(2,.ptr 0 1 [] 0 0 0),(5,I c),(6,I i)],[⟨1,0,.own 2 [.agg [.lst (s.acts.map .str),.lst (s.S.map eSt)]]⟩],[]⟩) (fun i=>s.S.length-i) ?_ 0 ?_
 ·rintro i σ ⟨hi,c,hc0,hc1,hc2,rfl⟩ N Q hQ hN;by_cases hlt:i<s.S.length
  ·obtain ⟨hl1,hl2⟩:=hs.fx i hlt;simp only [go_sem,↓reduceIte,↓Aa,eSt,Int.ofNat_lt,hlt];by_cases hc:c≤K
   ·have w1:IntKind.i64.wrap ((s.S[i]!.A.length:Int)+(s.S[i]!.X.length:Int))=(s.S[i]!.A.length:Int)+(s.S[i]!.X.length:Int):=by rw [L7]<;>omega
    have w2:IntKind.i64.wrap (c+((s.S[i]!.A.length:Int)+(s.S[i]!.X.length:Int)))=c+((s.S[i]!.A.length:Int)+(s.S[i]!.X.length:Int)):=by rw [L7]<;>omega
    have w3:IntKind.i64.wrap ((i:Int)+1)=((i+1:Nat):Int):=by rw [L7]<;>omega
    simp only [go_sem,↓reduceIte,↓Aa,hc,w1,w2,w3];refine hN (i+1) _ (by omega) ⟨by omega,c+((s.S[i]!.A.length:Int)+s.S[i]!.X.length),by omega,by omega,fun h=>?_,?_⟩
    ·obtain ⟨g1,g2,g3⟩:=hc2 hc;exact ⟨by omega,by omega,Ae (fun j hj=>by have:=g3 j hj;omega) (by omega)⟩
    ·simp only [go_sem,↓reduceIte,↓Aa]
   ·simp only [go_sem,↓reduceIte,↓Aa,hc];subst hQ;simp only [go_sem,↓reduceIte,↓Aa,YQ,hc]
  ·subst hQ;have hil:i=s.S.length:=by omega
   subst hil;simp only [go_sem,↓reduceIte,↓Aa,Int.ofNat_lt,hlt,YQ,decide_eq_true_eq];intro h;obtain ⟨g1,g2,g3⟩:=hc2 h;exact ⟨by omega,by omega,fun j hj=>by have:=g3 j hj;omega⟩
 ·refine ⟨by omega,s.acts.length+s.S.length,by omega,by omega,fun _=>⟨by omega,by omega,fun j hj=>absurd hj (by omega)⟩,?_⟩;simp only [go_sem,↓reduceIte,↓Aa]
mutual
def eqv:AV→AV→Bool
 | .int a n,.int b m=>a==b&&n==m
 | .bool a,.bool b=>a==b
 | .str a,.str b=>a.data.toList==b.data.toList
 | .lst xs,.lst ys=>Ag5 xs ys
 | .agg xs,.agg ys=>Ag5 xs ys
 | .tup xs,.tup ys=>Ag5 xs ys
 | _,_=>false
def Ag5:List AV→List AV→Bool
 | [],[]=>true
 | x::xs,y::ys=>eqv x y&&Ag5 xs ys
 | _,_=>false
end
mutual
theorem Ag0:∀(x y:AV),eqv x y=true→x=y
 | .int a n,.int b m,h=>by simp only [eqv,Bool.and_eq_true,beq_iff_eq] at h;rw [h.1,h.2]
 | .bool a,.bool b,h=>by simp only [eqv,beq_iff_eq] at h;rw [h]
 | .str ⟨a⟩,.str ⟨b⟩,h=>by
   simp only [eqv,beq_iff_eq] at h;have:=Array.toList_inj.1 h;subst this;rfl
 | .lst xs,.lst ys,h=>by simp only [eqv] at h;rw [TH xs ys h]
 | .agg xs,.agg ys,h=>by simp only [eqv] at h;rw [TH xs ys h]
 | .tup xs,.tup ys,h=>by simp only [eqv] at h;rw [TH xs ys h]
theorem TH:∀(xs ys:List AV),Ag5 xs ys=true→xs=ys
 | [],[],_=>rfl
 | x::xs,y::ys,h=>by simp only [Ag5,Bool.and_eq_true] at h;rw [Ag0 x y h.1,TH xs ys h.2]
 | [],_::_,h=>by simp [Ag5] at h
 | _::_,[],h=>by simp [Ag5] at h
end
def AjM (v:AV):Option (List AV×St)→Bool
 | some (rs,σ)=>eqv (packV (treeBL 0 σ.h rs)) v
 | none=>false
theorem Fn.kernel {G:Prg}{f:FuncId}{F:IF}{xs:List AV}{v:AV}(n:Nat)(hf:G f=some F)(h1:xs.length=F.np)(h2:F.pure=true)(h3:F.fo=false)(h4:splits F xs=false)(h:AjM v (runF G n F xs [] [])=true):Fn G f xs v:=by
 unfold AjM at h;split at h
 ·rename_i rs σ hr;exact ⟨F,n,rs,σ,hf,h1,h2,h3,h4,hr,Ag0 _ _ h⟩
 ·cases h
section
variable {roots:List Nat}{b:Nat}{ss:List Nat}{σ:St}{k:AV→St→Prop}
end
end Go.Mw
namespace Go.Mw
set_option maxRecDepth 100000
def zSpc:Spc:=⟨[],[]⟩
section
variable {roots:List Nat}{b:Nat}{ss:List Nat}{σ:St}{k:AV→St→Prop}
end
end Go.Mw
namespace Go.Mw
set_option maxRecDepth 100000
abbrev looseV:AV:=.agg [.lst [.str ⟨#[97]⟩],.lst [.agg [.lst [I 0,I 1],.lst [I 0]]]]
abbrev F2:AV:=.agg [.lst [.str ⟨#[97]⟩],.lst [.agg [.lst [I 1],.lst [I 0]]]]
theorem AeO:Fn G C3 [] looseV:=by
 refine FnP.mk' WB rfl rfl ?_;simp only [go_sem,↓reduceIte,↓Aa,Qp]
theorem AcP:Fn G Cq [] F2:=by
 refine FnP.mk' Up rfl rfl ?_;simp only [go_sem,↓reduceIte,↓Aa,Oi]
theorem Agd:Fn G Fk [looseV,F2] (.tup [F2,I 0]):=Fn.kernel 80 Wq rfl rfl rfl rfl (by decide +kernel)
theorem Aey:Fn G Fd [looseV,F2] (.tup [looseV,I 0]):=Fn.kernel 100 WR rfl rfl rfl rfl (by decide +kernel)
theorem Aee:Fn G Bx [looseV,looseV] (Bo true):=Fn.kernel 100 NO rfl rfl rfl rfl (by decide +kernel)
theorem AdE:Fn G Bx [F2,F2] (Bo true):=Fn.kernel 100 NO rfl rfl rfl rfl (by decide +kernel)
section
variable {roots:List Nat}{b:Nat}{ss:List Nat}{σ:St}{k:AV→St→Prop}
theorem Adn:callT G C3 [] true roots b ss σ k=k looseV σ:=AeO.rule
theorem YZ:callT G Cq [] true roots b ss σ k=k F2 σ:=AcP.rule
theorem Ac7:callT G Fk [looseV,F2] true roots b ss σ k=k (.tup [F2,I 0]) σ:=Agd.rule
theorem Add:callT G Fd [looseV,F2] true roots b ss σ k=k (.tup [looseV,I 0]) σ:=Aey.rule
theorem Yt:callT G Bx [looseV,looseV] true roots b ss σ k=k (Bo true) σ:=Aee.rule
theorem YY:callT G Bx [F2,F2] true roots b ss σ k=k (Bo true) σ:=AdE.rule
end
end Go.Mw
namespace Go.Mw
set_option maxRecDepth 100000
section
variable {α:Type} [Inhabited α]
structure TO (lt:α→α→Bool):Prop where
 asymm:∀ {x y},lt x y=true→lt y x=false
 trans:∀ {x y z},lt y x=false→lt z y=false→lt z x=false
omit [Inhabited α] in
theorem TO.refl {lt:α→α→Bool}(h:TO lt){x:α}:lt x x=false:=by
 cases hc:lt x x with
 | false=>rfl
 | true=>have h2:=h.asymm hc;rw [hc] at h2;cases h2
structure SegP (l l':List α)(a b:Nat):Prop where
 len:l'.length=l.length
 out:∀i,(i<a∨b≤i)→l'[i]! = l[i]!
 perm:l'.Perm l
 all:∀P:α→Prop,(∀i,a≤i→i<b→P l[i]!)→∀i,a≤i→i<b→P l'[i]!
theorem SegP.refl {l:List α}{a b:Nat}:SegP l l a b:=⟨rfl,fun _ _=>rfl,List.Perm.refl _,fun _ h=>h⟩
theorem SegP.tr {l m n:List α}{a b:Nat}(h:SegP l m a b)(k:SegP m n a b):SegP l n a b :=
 ⟨k.len.trans h.len,fun i hi=>(k.out i hi).trans (h.out i hi),k.perm.trans h.perm,fun P hP=>k.all P (h.all P hP)⟩
def sw (l:List α)(i j:Nat):List α:=(l.set i l[j]!).set j l[i]!
theorem sw_len {l:List α}{i j:Nat}:(sw l i j).length=l.length:=by simp [sw]
theorem Ad4 {l:List α}{i k:Nat}{v:α}(hi:i<l.length):(l.set i v)[k]! = if k=i then v else l[k]!:=by
 by_cases e:k=i
 ·subst e;rw [if_pos rfl,getElem!_pos _ k (by simpa using hi),List.getElem_set_self]
 ·rw [if_neg e,List.getElem!_eq_getElem?_getD,List.getElem?_set_ne (fun h=>e h.symm),←List.getElem!_eq_getElem?_getD]
theorem sw_get {l:List α}{i j k:Nat}(hi:i<l.length)(hj:j<l.length):(sw l i j)[k]! = if k=j then l[i]! else if k=i then l[j]! else l[k]!:=by
 unfold sw;rw [Ad4 (by simpa using hj),Ad4 hi]
theorem sw_seg {l:List α}{i j a b:Nat}(hi:i<l.length)(hj:j<l.length)(h1:a≤i)(h2:i<b)(h3:a≤j)(h4:j<b):SegP l (sw l i j) a b:=by
 refine ⟨sw_len,fun k hk=>?_,?_,fun P hP k h5 h6=>?_⟩
 ·rw [sw_get hi hj,if_neg (by omega),if_neg (by omega)]
 ·unfold sw;rw [getElem!_pos l j hj,getElem!_pos l i hi];exact List.set_set_perm hi hj
 ·rw [sw_get hi hj];split
  ·exact hP i h1 h2
  ·split
   ·exact hP j h3 h4
   ·exact hP k h5 h6
variable {lt:α→α→Bool}
def Srt (lt:α→α→Bool)(l:List α)(a b:Nat):Prop:=∀i j,a≤i→i<j→j<b→lt l[j]! l[i]! = false
structure Hole (lt:α→α→Bool)(l:List α)(a i j:Nat):Prop where
 o:∀p q,a≤p→p<q→q≤i→p≠j→q≠j→lt l[q]! l[p]! = false
 h:∀q,j<q→q≤i→lt l[q]! l[j]! = false
theorem Hole.start {l:List α}{a i:Nat}(h:Srt lt l a i):Hole lt l a i i:=⟨fun p q h1 h2 h3 h4 h5=>h p q h1 h2 (by omega),fun q h1 h2=>by omega⟩
theorem Hole.step {l:List α}{a i j:Nat}(ht:TO lt)(h:Hole lt l a i j)(hj:a<j)(hji:j≤i)(hi:i<l.length)(hl:lt l[j]! l[j-1]! = true):Hole lt (sw l j (j-1)) a i (j-1):=by
 have hj1:j<l.length:=by omega
 have hj2:j-1<l.length:=by omega
 refine ⟨fun p q h1 h2 h3 h4 h5=>?_,fun q h1 h2=>?_⟩
 ·rw [sw_get hj1 hj2,sw_get hj1 hj2,if_neg h5,if_neg h4];by_cases e1:q=j
  ·rw [if_pos e1,if_neg (by omega)];exact h.o p (j-1) h1 (by omega) (by omega) (by omega) (by omega)
  ·rw [if_neg e1];by_cases e2:p=j
   ·rw [if_pos e2];exact h.o (j-1) q (by omega) (by omega) h3 (by omega) e1
   ·rw [if_neg e2];exact h.o p q h1 h2 h3 e2 e1
 ·rw [sw_get hj1 hj2,sw_get hj1 hj2,if_neg (by omega),if_pos rfl];by_cases e1:q=j
  ·rw [if_pos e1];exact ht.asymm hl
  ·rw [if_neg e1];exact h.h q (by omega) h2
theorem Hole.fin {l:List α}{a i j:Nat}(ht:TO lt)(h:Hole lt l a i j)(hj:a≤j)(hji:j≤i)(hl:j=a∨lt l[j]! l[j-1]! = false):Srt lt l a (i+1):=by
 intro p q h1 h2 h3;by_cases e1:p=j
 ·rw [e1];exact h.h q (by omega) (by omega)
 ·by_cases e2:q=j
  ·rw [e2];rcases hl with hl|hl
   ·omega
   ·by_cases e3:p=j-1
    ·rw [e3];exact hl
    ·exact ht.trans (h.o p (j-1) h1 (by omega) (by omega) e1 (by omega)) hl
  ·exact h.o p q h1 h2 (by omega) e1 e2
theorem Srt.one {l:List α}{a b:Nat}(h:b≤a+1):Srt lt l a b:=fun i j h1 h2 h3=>by omega
def Hp (lt:α→α→Bool)(l:List α)(f lo hi:Nat):Prop:=∀p c,lo≤p→(c=2*p+1∨c=2*p+2)→c<hi→lt l[f+p]! l[f+c]! = false
structure HpX (lt:α→α→Bool)(l:List α)(f lo hi r:Nat):Prop where
 o:∀p c,lo≤p→p≠r→(c=2*p+1∨c=2*p+2)→c<hi→lt l[f+p]! l[f+c]! = false
 g:∀p c,lo≤p→(r=2*p+1∨r=2*p+2)→(c=2*r+1∨c=2*r+2)→c<hi→lt l[f+p]! l[f+c]! = false
theorem HpX.start {l:List α}{f lo hi:Nat}(h:Hp lt l f (lo+1) hi):HpX lt l f lo hi lo :=
 ⟨fun p c h1 h2 h3 h4=>h p c (by omega) h3 h4,fun p c h1 h2 h3 h4=>by omega⟩
theorem HpX.fin {l:List α}{f lo hi r:Nat}(ht:TO lt)(h:HpX lt l f lo hi r){c:Nat}(hc:c=2*r+1∨c=2*r+2)(hm:∀d,(d=2*r+1∨d=2*r+2)→d<hi→lt l[f+c]! l[f+d]! = false)(hl:lt l[f+r]! l[f+c]! = false):Hp lt l f lo hi:=by
 intro p d h1 h2 h3;by_cases e:p=r
 ·subst e;exact ht.trans (hm d h2 h3) hl
 ·exact h.o p d h1 e h2 h3
theorem HpX.step {l:List α}{f lo hi r:Nat}(ht:TO lt)(h:HpX lt l f lo hi r)(hlo:lo≤r){c:Nat}(hc:c=2*r+1∨c=2*r+2)(hch:c<hi)(hlen:f+hi≤l.length)(hm:∀d,(d=2*r+1∨d=2*r+2)→d<hi→lt l[f+c]! l[f+d]! = false)(hl:lt l[f+r]! l[f+c]! = true):HpX lt (sw l (f+r) (f+c)) f lo hi c:=by
 have hr1:f+r<l.length:=by omega
 have hc1:f+c<l.length:=by omega
 have hg:∀k,(sw l (f+r) (f+c))[f+k]! = if k=c then l[f+r]! else if k=r then l[f+c]! else l[f+k]!:=fun k=>by
  rw [sw_get hr1 hc1];by_cases e1:k=c
  ·subst e1;rw [if_pos rfl,if_pos rfl]
  ·rw [if_neg (by omega),if_neg e1];by_cases e2:k=r
   ·subst e2;rw [if_pos rfl,if_pos rfl]
   ·rw [if_neg (by omega),if_neg e2]
 refine ⟨fun p d h1 h2 h3 h4=>?_,fun p d h1 h2 h3 h4=>?_⟩
 ·rw [hg,hg,if_neg h2];by_cases e1:d=c
  ·rw [if_pos e1];have:p=r:=by omega
   rw [if_pos this];exact ht.asymm hl
  ·rw [if_neg e1];by_cases e2:p=r
   ·rw [if_pos e2,if_neg (by omega)];exact hm d (by omega) h4
   ·rw [if_neg e2];by_cases e3:d=r
    ·rw [if_pos e3];exact h.g p c h1 (by omega) hc hch
    ·rw [if_neg e3];exact h.o p d h1 e2 h3 h4
 ·have hpr:p=r:=by omega
  rw [hg,hg,hpr,if_neg (by omega),if_pos rfl,if_neg (by omega),if_neg (by omega)];exact h.o c d (by omega) (by omega) h3 h4
theorem Hp.top {l:List α}{f hi:Nat}(ht:TO lt)(h:Hp lt l f 0 hi):∀n c,c≤n→c<hi→lt l[f]! l[f+c]! = false:=by
 intro n;induction n with
 | zero=>intro c h1 h2;have:c=0:=by omega
         subst this;exact ht.refl
 | succ n ih =>
   intro c h1 h2;by_cases e:c=0
   ·subst e;exact ht.refl
   ·have h3:=h ((c-1) / 2) c (by omega) (by omega) h2;have h4:=ih ((c-1) / 2) (by omega) (by omega);exact ht.trans h3 h4
end
end Go.Mw
namespace Go.Mw
set_option maxRecDepth 100000
def dh (H:List Ob)(r st ss:Nat)(l:List Int):List Ob:=H.set r ⟨st,ss,.own 1 (l.map I)⟩
theorem Oo {H:List Ob}{r st ss:Nat}{l:List Int}(hr:r<H.length):(dh H r st ss l)[r]? = some ⟨st,ss,.own 1 (l.map I)⟩:=by unfold dh;rw [List.getElem?_set_self hr]
theorem dh_set {H:List Ob}{r st ss st' ss':Nat}{l m:List Int}:(dh H r st ss l).set r ⟨st',ss',.own 1 (m.map I)⟩=dh H r st' ss' m:=by unfold dh;rw [List.set_set]
theorem dh_len {H:List Ob}{r st ss:Nat}{l:List Int}:(dh H r st ss l).length=H.length:=by unfold dh;rw [List.length_set]
theorem dh_take {H:List Ob}{r st ss:Nat}{l:List Int}:(dh H r st ss l).take H.length=dh H r st ss l:=List.take_of_length_le (by rw [dh_len];exact Nat.le_refl _)
theorem map_setI' {l:List Int}{i:Nat}{v:Int}:(l.map I).set i (.int .i64 v)=(l.set i v).map I:=by rw [List.map_set]
theorem freeL_n {h:List Ob}:Jk [] 0 h=h:=by
 have key:∀(h:List Ob) (i:Nat),Jk [] i h=h:=by
  intro h;induction h with
  | nil=>intro i;rfl
  | cons o h ih=>intro i;simp only [Jk];rw [ih];simp
 exact key h 0
attribute [go_sem] dh_set dh_len dh_take map_setI'  freeL_n
def ltI (x y:Int):Bool:=decide (x<y)
theorem AjQ:TO ltI:=by
 constructor
 ·intro x y h;unfold ltI at h ⊢;rw [decide_eq_true_eq] at h;rw [decide_eq_false_iff_not];omega
 ·intro x y z h1 h2;unfold ltI at h1 h2 ⊢;rw [decide_eq_false_iff_not] at h1 h2 ⊢;omega
def Suf (l:List Int)(a k n:Nat):Prop:=∀p q,p<q→k≤q→q<n→ltI l[a+q]! l[a+p]! = false
theorem Suf.step {m m':List Int}{a i n:Nat}(hlen:a+n≤m.length)(hi:i<n)(hs:Suf m a (i+1) n)(hp:Hp ltI m a 0 (i+1))(hm:SegP (sw m a (a+i)) m' a (a+i)):Suf m' a i n:=by
 have ha:a<m.length:=by omega
 have hai:a+i<m.length:=by omega
 have hg:∀j,(sw m a (a+i))[a+j]! = if j=i then m[a]! else if j=0 then m[a+i]! else m[a+j]!:=fun j=>by
  rw [sw_get ha hai];by_cases e1:j=i
  ·rw [if_pos (by omega),if_pos e1]
  ·rw [if_neg (by omega),if_neg e1];by_cases e2:j=0
   ·rw [if_pos (by omega),if_pos e2]
   ·rw [if_neg (by omega),if_neg e2]
 have htop:=fun j (hj:j<i+1)=>Hp.top AjQ hp j j (Nat.le_refl _) hj;intro p q h1 h2 h3;rw [hm.out (a+q) (by omega),hg];by_cases e1:q=i
 ·rw [if_pos e1];refine hm.all (fun x=>ltI m[a]! x=false) (fun j hj1 hj2=>?_) (a+p) (by omega) (by omega);obtain ⟨d,rfl⟩:∃d,j=a+d:=⟨j-a,by omega⟩;rw [hg,if_neg (by omega)];split
  ·exact htop i (by omega)
  ·exact htop d (by omega)
 ·rw [if_neg e1,if_neg (by omega)];by_cases e2:p<i
  ·refine hm.all (fun x=>ltI m[a+q]! x=false) (fun j hj1 hj2=>?_) (a+p) (by omega) (by omega);obtain ⟨d,rfl⟩:∃d,j=a+d:=⟨j-a,by omega⟩;rw [hg,if_neg (by omega)];split
   ·exact hs i q (by omega) (by omega) h3
   ·exact hs d q (by omega) (by omega) h3
  ·rw [hm.out (a+p) (by omega),hg];by_cases e3:p=i
   ·rw [if_pos e3];exact hs 0 q (by omega) (by omega) h3
   ·rw [if_neg e3,if_neg (by omega)];exact hs p q h1 (by omega) h3
structure PInv (l m:List Int)(a b i j:Nat):Prop where
 seg:SegP l m a b
 ai:a+1≤i
 ij:i≤j+1
 jb:j<b
 aj:a≤j
 lo:∀k,a+1≤k→k<i→ltI m[k]! m[a]! = true
 hi:∀k,j<k→k<b→ltI m[k]! m[a]! = false
structure PPost (l m:List Int)(a b j:Nat):Prop where
 seg:SegP l m a b
 aj:a≤j
 jb:j<b
 lo:∀k,a≤k→k<j→ltI m[k]! m[j]! = true
 hi:∀k,j<k→k<b→ltI m[k]! m[j]! = false
theorem PInv.up {l m:List Int}{a b i j:Nat}(h:PInv l m a b i j)(hij:i≤j)(hlt:m[i]! < m[a]!):PInv l m a b (i+1) j :=
 ⟨h.seg,by have:=h.ai;omega,by omega,h.jb,h.aj,fun k h1 h2=>by
  by_cases e:k=i
  ·rw [e];unfold ltI;rw [decide_eq_true_eq];exact hlt
  ·exact h.lo k h1 (by omega),h.hi⟩
theorem PInv.fin {l m:List Int}{a b i j:Nat}(hbl:b≤l.length)(h:PInv l m a b i j)(hij:¬i≤j):PPost l (sw m j a) a b j:=by
 have hml:=h.seg.len;have h1:=h.ai;have h2:=h.jb;have h3:=h.aj;have h4:=h.ij;have ha':a<m.length:=by omega
 have hj':j<m.length:=by omega
 have hg:=@sw_get Int _ m j a;refine ⟨h.seg.tr (sw_seg hj' ha' (by omega) (by omega) (by omega) (by omega)),h3,h2,fun k h5 h6=>?_,fun k h5 h6=>?_⟩
 ·rw [hg hj' ha',hg hj' ha',if_neg (show ¬j=a by omega),if_pos rfl];by_cases e:k=a
  ·rw [if_pos e];exact h.lo j (by omega) (by omega)
  ·rw [if_neg e,if_neg (by omega)];exact h.lo k (by omega) (by omega)
 ·rw [hg hj' ha',hg hj' ha',if_neg (show ¬k=a by omega),if_neg (show ¬k=j by omega)];by_cases e:j=a
  ·rw [if_pos e,e];exact h.hi k h5 h6
  ·rw [if_neg e,if_pos rfl];exact h.hi k h5 h6
theorem PInv.start {l:List Int}{a b p:Nat}(hbl:b≤l.length)(h1:a≤p)(h2:p<b):PInv l (sw l a p) a b (a+1) (b-1) :=
 ⟨sw_seg (by omega) (by omega) (Nat.le_refl _) (by omega) h1 h2,Nat.le_refl _,by omega,by omega,by omega,fun k h3 h4=>by omega,fun k h3 h4=>by omega⟩
structure EInv (l m:List Int)(a b:Nat)(v:Int)(i j:Nat):Prop where
 seg:SegP l m a b
 ai:a+1≤i
 ij:i≤j+1
 jb:j<b
 aj:a≤j
 pv:m[a]! = v
 lo:∀k,a+1≤k→k<i→¬v<m[k]!
 hi:∀k,j<k→k<b→v<m[k]!
structure EPost (l m:List Int)(a b:Nat)(v:Int)(i:Nat):Prop where
 seg:SegP l m a b
 ai:a<i
 ib:i≤b
 lo:∀k,a≤k→k<i→¬v<m[k]!
 hi:∀k,i≤k→k<b→v<m[k]!
theorem EInv.up {l m:List Int}{a b i j:Nat}{v:Int}(h:EInv l m a b v i j)(hij:i≤j)(hlt:¬m[a]! < m[i]!):EInv l m a b v (i+1) j :=
 ⟨h.seg,by have:=h.ai;omega,by omega,h.jb,h.aj,h.pv,fun k h1 h2=>by
  by_cases e:k=i
  ·rw [e,←h.pv];exact hlt
  ·exact h.lo k h1 (by omega),h.hi⟩
theorem EInv.fin {l m:List Int}{a b i j:Nat}{v:Int}(h:EInv l m a b v i j)(hij:¬i≤j):EPost l m a b v i:=by
 have h1:=h.ai;have h2:=h.jb;have h3:=h.ij;refine ⟨h.seg,by omega,by omega,fun k h5 h6=>?_,fun k h5 h6=>h.hi k (by omega) h6⟩;by_cases e:k=a
 ·rw [e,h.pv];omega
 ·exact h.lo k (by omega) h6
theorem EInv.start {l:List Int}{a b p:Nat}(hbl:b≤l.length)(h1:a≤p)(h2:p<b):EInv l (sw l a p) a b l[p]! (a+1) (b-1):=by
 refine ⟨sw_seg (by omega) (by omega) (Nat.le_refl _) (by omega) h1 h2,Nat.le_refl _,by omega,by omega,by omega,?_,fun k h3 h4=>by omega,fun k h3 h4=>by omega⟩;rw [sw_get (by omega) (by omega)];by_cases e:a=p
 ·rw [if_pos e,e]
 ·rw [if_neg e,if_pos rfl]
def Low (l:List Int)(a b:Nat):Prop:=a=0∨∀i,a≤i→i<b→¬l[i]! < l[a-1]!
theorem Low.seg {l m:List Int}{a b:Nat}(h:Low l a b)(hs:SegP l m a b):Low m a b:=by
 rcases h with h|h
 ·exact .inl h
 ·by_cases h0:a=0
  ·exact .inl h0
  refine .inr (fun i h1 h2=>?_);rw [hs.out (a-1) (by omega)];exact hs.all (fun x=>¬x<l[a-1]!) h i h1 h2
theorem Srt.sub {m:List Int}{a i c d:Nat}(h:Srt ltI m a i)(h1:a≤c)(h2:d≤i):Srt ltI m c d:=fun p q g1 g2 g3=>h p q (by omega) g2 (by omega)
def dc (H:List Ob)(r st ss:Nat)(n:Int):List Ob:=H.set r ⟨st,ss,.own 1 [.int .u64 n]⟩
theorem FnP.some {f:FuncId}{xs:List AV}{P:AV→Prop}(h:FnP G f xs fun rs h=>P (packV (treeBL 0 h rs))∧rs.all AV.flats=true):∃v,P v∧FnT G f xs v:=by
 obtain ⟨F,n,rs,σ1,h1,h2,h3,h4,h5,h6,h7,h8⟩:=h.ok;exact ⟨_,h7,F,n,rs,σ1,h1,h2,h3,h4,h5,h6,rfl,h8⟩
def dx (H:List Ob)(r st ss:Nat)(l:List Int)(st2:Nat)(n:Int):List Ob:=dc (dh (H++[Jv]) r st ss l) H.length st2 0 n
def Prt (m:List Int)(a c d b:Nat):Prop:=∀i j,a≤i→i<j→j<b→(i<c∨d≤j)→¬m[j]! < m[i]!
theorem Prt.step {m n:List Int}{a c d b c' d':Nat}(h:Prt m a c d b)(hs:SegP m n c d)(hc:a≤c)(hd:d≤b)(h1:c≤c')(h2:d'≤d)(hn:Prt n c c' d' d):Prt n a c' d' b:=by
 intro i j g1 g2 g3 g4;by_cases e1:i<c
 ·rw [hs.out i (.inl e1)];by_cases e2:j<c
  ·rw [hs.out j (.inl e2)];exact h i j g1 g2 g3 (.inl e1)
  ·by_cases e3:d≤j
   ·rw [hs.out j (.inr e3)];exact h i j g1 g2 g3 (.inl e1)
   ·exact hs.all (fun x=>¬x<m[i]!) (fun k k1 k2=>h i k g1 (by omega) (by omega) (.inl e1)) j (by omega) (by omega)
 ·by_cases e3:d≤j
  ·rw [hs.out j (.inr e3)];by_cases e4:d≤i
   ·rw [hs.out i (.inr e4)];exact h i j g1 g2 g3 (.inr e3)
   ·exact hs.all (fun x=>¬m[j]! < x) (fun k k1 k2=>h k j (by omega) (by omega) (by omega) (.inr e3)) i (by omega) (by omega)
  ·exact hn i j (by omega) g2 (by omega) g4
theorem Prt.fin {m n:List Int}{a c d b:Nat}(h:Prt m a c d b)(hs:SegP m n c d)(hc:a≤c)(hcd:c≤d)(hd:d≤b)(hn:Srt ltI n c d):Srt ltI n a b:=by
 have h1:Prt n a d d b:=h.step hs hc hd hcd (Nat.le_refl _) (fun i j g1 g2 g3 g4=>by
  have:=hn i j g1 g2 g3;unfold ltI at this;rw [decide_eq_false_iff_not] at this;exact this)
 intro i j g1 g2 g3;unfold ltI;rw [decide_eq_false_iff_not];exact h1 i j g1 g2 g3 (by omega)
theorem Yu {l:List Int}{k i:Nat}(h:i<k)(hl:k≤l.length):(l.take k)[i]! = l[i]!:=by
 rw [getElem!_pos _ i (by rw [List.length_take];omega),List.getElem_take,getElem!_pos l i (by omega)]
theorem AcO {l:List Int}{k i:Nat}{v:Int}(hk:k<l.length):(l.set k v)[i]! = if k=i then v else l[i]!:=LN hk
structure Cpt (l m:List Int)(k n:Nat):Prop where
 len:m.length=l.length
 k1:k<n
 n1:n≤l.length
 k0:0<k
 pw:(m.take k).Pairwise (· < ·)
 mem:∀v,v∈m.take k↔v∈l.take n
 rest:∀j,n≤j+1→j<l.length→m[j]! = l[j]!
theorem Cpt.skip {l m:List Int}{k n:Nat}(h:Cpt l m k n)(hn:n<l.length)(he:l[n]! = l[n-1]!):Cpt l m k (n+1):=by
 have hk:=h.k1;have hk0:=h.k0;refine ⟨h.len,by omega,by omega,h.k0,h.pw,fun v=>?_,fun j hj hjl=>h.rest j (by omega) hjl⟩;rw [List.take_succ_eq_append_getElem hn,List.mem_append,List.mem_singleton,←h.mem v,←getElem!_pos l n hn,he];constructor
 ·exact .inl
 ·rintro (h1|rfl)
  ·exact h1
  ·rw [h.mem,List.mem_take_iff_getElem];exact ⟨n-1,by omega,by rw [getElem!_pos l (n-1) (by omega)]⟩
theorem Cpt.step {l m:List Int}{k n:Nat}(h:Cpt l m k n)(hs:∀i j,i<j→j<l.length→l[i]!≤l[j]!)(hn:n<l.length)(he:l[n]!≠l[n-1]!):Cpt l (m.set k l[n]!) (k+1) (n+1):=by
 have hk:=h.k1;have hk0:=h.k0;have hl:=h.len;have ht:(m.set k l[n]!).take (k+1)=m.take k++[l[n]!]:=by
  rw [List.take_succ_eq_append_getElem (by rw [List.length_set];omega),List.getElem_set_self];congr 1;apply List.ext_getElem?;intro i;rw [List.getElem?_take,List.getElem?_take];split
  ·rw [List.getElem?_set_ne (by omega)]
  ·rfl
 refine ⟨by rw [List.length_set];exact hl,by omega,by omega,by omega,?_,fun v=>?_,fun j hj hjl=>?_⟩
 ·rw [ht,List.pairwise_append];refine ⟨h.pw,by simp,fun a ha b hb=>?_⟩;rw [List.mem_singleton] at hb;subst hb;have:=(h.mem a).1 ha;obtain ⟨i,hi,e⟩:=List.mem_take_iff_getElem.1 this;have e2:a=l[i]!:=by rw [getElem!_pos l i (by omega)];exact e.symm
  rw [e2];have h1:=hs (n-1) n (by omega) hn;have h2:l[i]!≤l[n-1]!:=by
   rcases Nat.lt_or_eq_of_le (show i≤n-1 by omega) with h3|rfl
   ·exact hs i (n-1) h3 (by omega)
   ·omega
  omega
 ·rw [ht,List.mem_append,List.mem_singleton,h.mem,List.take_succ_eq_append_getElem hn,List.mem_append,List.mem_singleton,getElem!_pos l n hn]
 ·rw [AcO (by omega),if_neg (by omega)];exact h.rest j (by omega) hjl
theorem Cpt.start {l:List Int}{k:Nat}(hk0:0<k)(hk:k<l.length)(hlt:∀i,0<i→i<k→l[i-1]!≠l[i]!)(hs:∀i j,i<j→j<l.length→l[i]!≤l[j]!)(he:l[k]! = l[k-1]!):Cpt l l k (k+1):=by
 refine ⟨rfl,by omega,by omega,hk0,?_,fun v=>?_,fun j _ _=>rfl⟩
 ·refine K9 fun i hi h0=>?_;rw [List.length_take] at hi;rw [Yu (by omega) (by omega),Yu (by omega) (by omega)];have:=hs (i-1) i (by omega) (by omega);have:=hlt i h0 (by omega);omega
 ·rw [List.take_succ_eq_append_getElem hk,List.mem_append,List.mem_singleton,←getElem!_pos l k hk,he];constructor
  ·exact .inl
  ·rintro (h1|rfl)
   ·exact h1
   ·rw [List.mem_take_iff_getElem];exact ⟨k-1,by omega,by rw [getElem!_pos l (k-1) (by omega)]⟩
end Go.Mw
