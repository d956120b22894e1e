/- Trimming, plainly; what is solid, as the reference finds it. -/
import Derived.Test.YtondemeliogjmaaGreatM21
set_option linter.unusedVariables false
set_option linter.unusedSimpArgs false
namespace Go.Mw
set_option maxRecDepth 100000
open Classical in
noncomputable def keptL (s:Spc)(x:Nat):List Int:=s.S[x]!.A.filter fun set => !decide (Dies s.S[x]! (inB (Cp s)) set)
open Classical in
noncomputable def keptP (s:Spc)(x m:Nat):List Int:=(s.S[x]!.A.take m).filter fun set => !decide (Dies s.S[x]! (inB (Cp s)) set)
open Classical in
theorem keptP_succ {s:Spc}{x m:Nat}(h:m<s.S[x]!.A.length):keptP s x (m+1)=if Dies s.S[x]! (inB (Cp s)) s.S[x]!.A[m]! then keptP s x m else keptP s x m++[s.S[x]!.A[m]!]:=by
 unfold keptP;generalize s.S[x]! = y at *;rw [List.take_succ_eq_append_getElem h,List.filter_append,getElem!_pos y.A m h];by_cases hd:Dies y (inB (Cp s)) y.A[m]<;>simp [hd]
theorem VV {s:Spc}{x:Nat}:keptP s x s.S[x]!.A.length=keptL s x:=by unfold keptP keptL;rw [List.take_length]
theorem U6 {s:Spc}{x m:Nat}:(keptP s x m).length≤m:=by
 unfold keptP;exact Nat.le_trans (List.length_filter_le _ _) (by rw [List.length_take];omega)
theorem Vs {s:Spc}{x m:Nat}{v:Int}(h:v∈keptP s x m):v∈s.S[x]!.A:=List.mem_of_mem_take (List.mem_filter.1 h).1
noncomputable def Ln (s:Spc)(x:Nat):List Int:=if (Cp s)[x]! then [] else keptL s x
noncomputable def Wd (s:Spc)(x m:Nat):List Int:=if (Cp s)[x]! then [] else keptP s x m
def usedN (l:List Int):Nat:=l.foldl (fun u v=>u|||v.toNat) 0
theorem JA {l:List Int}{v:Int}:usedN (l++[v])=usedN l|||v.toNat:=by unfold usedN;rw [List.foldl_append];rfl
theorem X7:∀(l:List Int) (u k:Nat),u<2 ^ k→(∀v∈l,v.toNat<2 ^ k)→l.foldl (fun u v=>u|||v.toNat) u<2 ^ k:=by
 intro l;induction l with
 | nil=>intro u k h _;exact h
 | cons v l ih=>intro u k h hv;exact ih _ k (Nat.or_lt_two_pow h (hv v (List.mem_cons_self ..))) (fun w hw=>hv w (List.mem_cons_of_mem _ hw))
theorem M8 {l:List Int}{k:Nat}(h:∀v∈l,v.toNat<2 ^ k):usedN l<2 ^ k:=X7 l 0 k (Nat.two_pow_pos k) h
theorem DI {l:List Int}{a:Nat}:(usedN l).testBit a=true↔∃v∈l,hasA v a=true:=by
 have key:∀(l:List Int) (u:Nat),(l.foldl (fun u v=>u|||v.toNat) u).testBit a=true↔u.testBit a=true∨∃v∈l,hasA v a=true:=by
  intro l;induction l with
  | nil=>intro u;simp
  | cons v l ih =>
    intro u;rw [List.foldl_cons,ih,Nat.testBit_or,Bool.or_eq_true];simp only [List.mem_cons,hasA];constructor
    ·rintro ((h|h)|⟨w,hw,h⟩)
     ·exact .inl h
     ·exact .inr ⟨v,.inl rfl,h⟩
     ·exact .inr ⟨w,.inr hw,h⟩
    ·rintro (h|⟨w,rfl|hw,h⟩)
     ·exact .inl (.inl h)
     ·exact .inl (.inr h)
     ·exact .inr ⟨w,hw,h⟩
 unfold usedN;rw [key];simp
def onlyX (x:Stt)(u j:Nat):List Int:=(List.range j).map fun a=>if u.testBit a then x.X[a]! else -1
theorem Sj {x:Stt}{u j:Nat}:onlyX x u (j+1)=onlyX x u j++[if u.testBit j then x.X[j]! else -1]:=by unfold onlyX;rw [List.range_succ];simp
theorem C0 {x:Stt}{u j:Nat}:(onlyX x u j).length=j:=by simp [onlyX]
theorem Mt {x:Stt}{u j a:Nat}(h:a<j):(onlyX x u j)[a]! = if u.testBit a then x.X[a]! else -1:=by
 rw [getElem!_pos _ a (by rw [C0];exact h)];simp [onlyX]
noncomputable def KJ (s:Spc)(x:Nat):Stt:=⟨Ln s x,onlyX s.S[x]! (usedN (Ln s x)) s.S[x]!.X.length⟩
noncomputable def solidOf (s:Spc):Spc:=⟨s.acts,(List.range s.S.length).map (KJ s)⟩
theorem AcW {s:Spc}(h:SpB s){x m:Nat}(hx:x<s.S.length):usedN (Wd s x m)<2 ^ 62:=by
 refine M8 fun v hv=>?_;unfold Wd at hv;split at hv
 ·cases hv
 ·obtain ⟨j,hj,e⟩:=List.mem_iff_getElem.1 (Vs hv);have:=(h.st x hx).a j hj;rw [getElem!_pos _ j hj,e] at this;omega
theorem Ym {s:Spc}{x m:Nat}:(Wd s x m).length≤m:=by unfold Wd;split<;>simp [U6]
theorem YJ {s:Spc}{x:Nat}:Wd s x s.S[x]!.A.length=Ln s x:=by unfold Wd Ln;rw [VV]
theorem Aks {α:Type}[Inhabited α]{f:Nat→α}{n i:Nat}(h:i<n):((List.range n).map f)[i]! = f i:=by
 rw [getElem!_pos _ i (by simpa using h)];simp
theorem Age (s:Spc)(h:SpB s)(ha:s.acts.length≤1048576):Fn G Fq [eSp s] (eSp (solidOf s)):=by
 refine FnP.mk' XN rfl rfl ?_;have hS:=h.sz;have hlen:(Cp s).length=s.S.length:=by simp [Cp]
 simp only [go_sem,↓reduceIte,↓Aa,PZ,eSp,Po h];refine ⟨by omega,?_⟩;refine Ad (fun (i:Nat) σ=>i≤s.S.length∧∃a0 c0 a2 c2 z a4 c4 a5 c5 a6 c6 a7 c7 a8 c8 a9 c9 a10 c10 a11 c11,σ=⟨aT .undef 84 [(2,.ptr 1 1 [] 0 0 0),(3,.lst ((Cp s).map Bo)),(4,.ptr 3 1 [] 0 0 0),(20,.lst (s.S.map eSt)),(21,I s.S.length),(22,I i)],
  [⟨a0,c0,.own 2 [.agg [.lst (s.acts.map .str),.lst (s.S.map eSt)]]⟩,⟨1,0,.own 2 [.agg [.nils,.nils]]⟩,⟨a2,c2,.gone⟩,⟨1,z,.own 2 [.agg [cellv .nils 1 (s.acts.map .str),cellv .nils 2 (((List.range i).map (KJ s)).map rowS)]]⟩,⟨a4,c4,.gone⟩,⟨a5,c5,.gone⟩,⟨a6,c6,.gone⟩,⟨a7,c7,.gone⟩,⟨a8,c8,.gone⟩,⟨a9,c9,.gone⟩,⟨a10,c10,.gone⟩,⟨a11,c11,.gone⟩],[]⟩) (fun i=>s.S.length-i) ?_ 0 ?_
 ·rintro i σ ⟨hi,a0,c0,a2,c2,z,a4,c4,a5,c5,a6,c6,a7,c7,a8,c8,a9,c9,a10,c10,a11,c11,rfl⟩ N Q hQ hN;by_cases hlt:i<s.S.length
  ·have hst:=h.st i hlt;have hA:=hst.la;have hX:=hst.lx;simp only [go_sem,↓reduceIte,↓Aa,eSt,Ab hlt (by omega),Int.ofNat_lt,hlt];refine Ad (fun (m:Nat) σ=>m≤s.S[i]!.A.length∧∃z6 a7 c7 a6 c6,σ=⟨aT .undef 84 [(2,.ptr 1 1 [] 0 0 0),(3,.lst ((Cp s).map Bo)),(4,.ptr 3 1 [] 0 0 0),(5,I i),(6,.ptr 4 (a4+1) [] 0 0 0),(7,.ptr 5 (a5+1) [] 0 0 0),(8,I (usedN (Wd s i m):Nat)),(20,.lst (s.S.map eSt)),(21,I s.S.length),(22,I i),(29,.lst (s.S[i]!.A.map I)),(30,I s.S[i]!.A.length),(31,I m)],
    [⟨a0,c0,.own 2 [.agg [.lst (s.acts.map .str),.lst (s.S.map eSt)]]⟩,⟨1,0,.own 2 [.agg [.nils,.nils]]⟩,⟨a2,c2,.gone⟩,⟨1,z,.own 2 [.agg [cellv .nils 1 (s.acts.map .str),cellv .nils 2 (((List.range i).map (KJ s)).map rowS)]]⟩,⟨a4+1,0,.own 2 [.agg [.lst (s.S[i]!.A.map I),.lst (s.S[i]!.X.map I)]]⟩,⟨a5+1,z6,.own 2 [.agg [cellv .nils 1 ((Wd s i m).map I),.nils]]⟩,⟨a6,c6,.gone⟩,⟨a7,c7,.gone⟩,⟨a8,c8,.gone⟩,⟨a9,c9,.gone⟩,⟨a10,c10,.gone⟩,⟨a11,c11,.gone⟩],[]⟩) (fun m=>s.S[i]!.A.length-m) ?_ 0 ?_
   ·rintro m σ ⟨hm,z6,a7,c7,a6,c6,rfl⟩ N2 Q2 hQ2 hN2;by_cases hlt2:m<s.S[i]!.A.length
    ·obtain ⟨t,ht,htl⟩:=hst.nat hlt2;have hul:=AcW h (m:=m) hlt;have hpl:=@Ym s i m;have hsu:Wd s i (m+1)=if (Cp s)[i]! then [] else keptP s i (m+1):=rfl;rw [keptP_succ hlt2,ht] at hsu;simp only [go_sem,↓reduceIte,↓Aa,Ab hlt2 (by omega),Int.ofNat_lt,hlt2,hlen,hlt,ht,Ado htl (show StB s.S[i]! (Cp s).length by rw [hlen];exact hst)];refine ⟨fun hh=>⟨fun hd=>⟨by omega,hN2 (m+1) _ (by omega) ⟨by omega,?_⟩⟩,fun hd=>hN2 (m+1) _ (by omega) ⟨by omega,?_⟩⟩,fun hh=>hN2 (m+1) _ (by omega) ⟨by omega,?_⟩⟩
     ·rw [if_neg (by rw [hh];simp),if_neg hd] at hsu;have e1:Wd s i m=keptP s i m:=by unfold Wd;rw [if_neg (by rw [hh];simp)]
      rw [←e1] at hsu;simp only [go_sem,↓reduceIte,↓Aa,hsu,JA,Int.toNat_natCast,L5 (show usedN (Wd s i m)<2 ^ 63 by omega) (show t<2 ^ 63 by omega),List.map_append];repeat apply Exists.intro
      rfl
     ·rw [if_neg (by rw [hh];simp),if_pos hd] at hsu;have e1:Wd s i m=keptP s i m:=by unfold Wd;rw [if_neg (by rw [hh];simp)]
      rw [←e1] at hsu;simp only [go_sem,↓reduceIte,↓Aa,hsu];repeat apply Exists.intro
      rfl
     ·rw [if_pos hh] at hsu;have e1:Wd s i m = []:=by unfold Wd;rw [if_pos hh]
      simp only [go_sem,↓reduceIte,↓Aa,hsu,e1];repeat apply Exists.intro
      rfl
    ·have hml:m=s.S[i]!.A.length:=by omega
     subst hml hQ2;have hul:=AcW h (m:=s.S[i]!.A.length) hlt;rw [YJ] at hul;simp only [go_sem,↓reduceIte,↓Aa,Int.ofNat_lt,hlt2,YJ];refine Ad (fun (j:Nat) σ=>j≤s.S[i]!.X.length∧∃z5 a8 c8 a9 c9,σ=⟨aT .undef 84 [(2,.ptr 1 1 [] 0 0 0),(3,.lst ((Cp s).map Bo)),(4,.ptr 3 1 [] 0 0 0),(7,.ptr 5 (a5+1) [] 0 0 0),(8,I (usedN (Ln s i):Nat)),(20,.lst (s.S.map eSt)),(21,I s.S.length),(22,I i),(58,.lst (s.S[i]!.X.map I)),(59,I s.S[i]!.X.length),(60,I j)],
      [⟨a0,c0,.own 2 [.agg [.lst (s.acts.map .str),.lst (s.S.map eSt)]]⟩,⟨1,0,.own 2 [.agg [.nils,.nils]]⟩,⟨a2,c2,.gone⟩,⟨1,z,.own 2 [.agg [cellv .nils 1 (s.acts.map .str),cellv .nils 2 (((List.range i).map (KJ s)).map rowS)]]⟩,⟨a4+1,0,.own 2 [.agg [.lst (s.S[i]!.A.map I),.lst (s.S[i]!.X.map I)]]⟩,⟨a5+1,z5,.own 2 [.agg [cellv .nils 1 ((Ln s i).map I),cellv .nils 1 ((onlyX s.S[i]! (usedN (Ln s i)) j).map I)]]⟩,⟨a6,c6,.gone⟩,⟨a7,c7,.gone⟩,⟨a8,c8,.gone⟩,⟨a9,c9,.gone⟩,⟨a10,c10,.gone⟩,⟨a11,c11,.gone⟩],[]⟩) (fun j=>s.S[i]!.X.length-j) ?_ 0 ?_
     ·rintro j σ ⟨hj,z5,a8,c8,a9,c9,rfl⟩ N3 Q3 hQ3 hN3;by_cases hlt3:j<s.S[i]!.X.length
      ·have hxl:=@C0 s.S[i]! (usedN (Ln s i)) j;simp only [go_sem,↓reduceIte,↓Aa,Ab hlt3 (by omega),Int.ofNat_lt,hlt3,Ac4 (show usedN (Ln s i)<2 ^ 63 by omega)];refine ⟨fun hb=>⟨by omega,hN3 (j+1) _ (by omega) ⟨by omega,?_⟩⟩,fun hb=>⟨by omega,hN3 (j+1) _ (by omega) ⟨by omega,?_⟩⟩⟩
       all_goals
        simp only [go_sem,↓reduceIte,↓Aa,Sj,hb,List.map_append];repeat apply Exists.intro
        rfl
      ·have hjl:j=s.S[i]!.X.length:=by omega
       subst hjl hQ3;simp only [go_sem,↓reduceIte,↓Aa,Int.ofNat_lt,hlt3,Ab hlt (show s.S.length≤1000000000 by omega)];refine ⟨by rw [List.length_range];omega,hN (i+1) _ (by omega) ⟨by omega,?_⟩⟩;simp only [go_sem,↓reduceIte,↓Aa,List.range_succ,List.map_append,rowS,KJ];repeat apply Exists.intro
       rfl
     ·refine ⟨by omega,?_⟩;simp only [go_sem,↓reduceIte,↓Aa,onlyX,List.range_zero,List.map_nil];repeat apply Exists.intro
      rfl
   ·refine ⟨by omega,?_⟩;have e0:Wd s i 0 = []:=List.eq_nil_of_length_eq_zero (by have:=@Ym s i 0;omega);simp only [go_sem,↓reduceIte,↓Aa,e0,usedN,List.foldl_nil,List.map_nil];repeat apply Exists.intro
    rfl
  ·have hil:i=s.S.length:=by omega
   subst hil hQ;simp only [go_sem,↓reduceIte,↓Aa,Int.ofNat_lt,hlt];have e:frz∘rowS=eSt:=funext frz_rowS;have e2:∀l:List Stt,(l.map rowS).map frz=l.map eSt:=fun l=>by rw [List.map_map,e]
   simp only [List.map_map];rw [←e];simp only [eSp,solidOf,List.map_map]
   first|rfl|trace_state
 ·refine ⟨by omega,?_⟩;simp only [go_sem,↓reduceIte,↓Aa,List.range_zero,List.map_nil];repeat apply Exists.intro
  rfl
def visit (p:List Bool×List Nat)(k:Int):List Bool×List Nat:=if 0≤k∧p.1[k.toNat]! = false then (p.1.set k.toNat true,p.2++[k.toNat]) else p
structure VI (n:Nat)(p:List Bool×List Nat):Prop where
 l:p.1.length=n
 nd:p.2.Nodup
 m:∀x,x∈p.2↔x<n∧p.1[x]! = true
 z:p.2[0]? = some 0
theorem VI.len {n:Nat}{p:List Bool×List Nat}(h:VI n p):p.2.length≤n:=EC h.nd (fun x hx=>((h.m x).1 hx).1)
theorem VI.pos {n:Nat}{p:List Bool×List Nat}(h:VI n p):0<p.2.length:=List.lt_of_some h.z
theorem VI.get {n:Nat}{p:List Bool×List Nat}(h:VI n p){i:Nat}(hi:i<p.2.length):p.2[i]! < n:=((h.m _).1 (AJ hi)).1
theorem VI.visit {n:Nat}{p:List Bool×List Nat}(h:VI n p){k:Int}(hk:k<(n:Int)):VI n (visit p k):=by
 unfold Go.Mw.visit;by_cases hc:0≤k∧p.1[k.toNat]! = false
 ·rw [if_pos hc];have hkn:k.toNat<n:=by omega
  refine ⟨by rw [List.length_set];exact h.l,?_,fun x=>?_,?_⟩
  ·rw [List.nodup_append];refine ⟨h.nd,by simp,fun a ha b hb=>?_⟩;rw [List.mem_singleton] at hb;subst hb;intro e;subst e;have:=((h.m _).1 ha).2;rw [hc.2] at this;cases this
  ·rw [List.mem_append,List.mem_singleton,h.m];simp only [];rw [LN (by rw [h.l];exact hkn)];by_cases e:k.toNat=x
   ·subst e;simp [hkn]
   ·rw [if_neg e];exact ⟨fun g=>g.resolve_right (fun g=>e g.symm),.inl⟩
  ·simp only [];rw [List.getElem?_append_left h.pos];exact h.z
 ·rw [if_neg hc];exact h
theorem VI.all {n:Nat}:∀(ks:List Int) {p:List Bool×List Nat},VI n p→(∀k∈ks,k<(n:Int))→VI n (ks.foldl Go.Mw.visit p)
 | [],p,h,_=>h
 | k::ks,p,h,hk=>VI.all ks (h.visit (hk k (List.mem_cons_self ..))) (fun j hj=>hk j (List.mem_cons_of_mem _ hj))
theorem V0 {p:List Bool×List Nat}{k:Int}:p.2 <+: (visit p k).2:=by
 unfold visit;split
 ·exact List.prefix_append _ _
 ·exact List.prefix_refl _
theorem FC:∀(ks:List Int) {p:List Bool×List Nat},p.2 <+: (ks.foldl visit p).2
 | [],p=>List.prefix_refl _
 | k::ks,p=>V0.trans (FC ks)
def bfsAt (n:Nat)(nx:Nat→List Int):Nat→List Bool×List Nat
 | 0=>((List.replicate n false).set 0 true,[0])
 | i+1=>if i<(bfsAt n nx i).2.length then (nx (bfsAt n nx i).2[i]!).foldl visit (bfsAt n nx i) else bfsAt n nx i
theorem N6 {n:Nat}{nx:Nat→List Int}(hn:0<n)(hx:∀x<n,∀k∈nx x,k<(n:Int)):∀i,VI n (bfsAt n nx i):=by
 intro i;induction i with
 | zero =>
   refine ⟨by simp [bfsAt],by simp [bfsAt],fun x=>?_,rfl⟩;simp only [bfsAt,List.mem_singleton];rw [LN (by simpa using hn)];by_cases e:0=x
   ·subst e;simp [hn]
   ·rw [if_neg e];constructor
    ·intro h;exact absurd h.symm e
    ·rintro ⟨h1,h2⟩;rw [getElem!_pos _ x (by simpa using h1)] at h2;simp at h2
 | succ i ih =>
   simp only [bfsAt];split
   ·rename_i hl;exact ih.all _ (hx _ (ih.get hl))
   ·exact ih
theorem Yq {n:Nat}{nx:Nat→List Int}{i:Nat}(h:(bfsAt n nx i).2.length≤i):∀j,bfsAt n nx (i+j)=bfsAt n nx i:=by
 intro j;induction j with
 | zero=>rfl
 | succ j ih=>rw [←Nat.add_assoc,bfsAt,ih,if_neg (by omega)]
def orderL (n:Nat)(nx:Nat→List Int):List Nat:=(bfsAt n nx n).2
theorem AdO {n:Nat}{nx:Nat→List Int}(hn:0<n)(hx:∀x<n,∀k∈nx x,k<(n:Int)){i:Nat}(h:(bfsAt n nx i).2.length=i):(bfsAt n nx i).2=orderL n nx:=by
 have hl:=(N6 hn hx i).len;have:=Yq (n:=n) (nx:=nx) (i:=i) (by omega) (n-i);rw [show i+(n-i)=n by omega] at this;unfold orderL;rw [this]
theorem Ah8 {n i:Nat}{v:AV}{q:AV→Prop}:elK (List.replicate n v) i q=(i<n∧q v):=by
 unfold elK;rw [List.getElem?_replicate];by_cases h:i<n<;>simp [h]
theorem Yv {n i:Nat}:(List.replicate n (AV.bool false)).set i (.bool true)=((List.replicate n false).set i true).map Bo:=by rw [List.map_set,List.map_replicate]
attribute [go_sem] Ah8
theorem Abz (s:Spc)(h:SpB s)(h1:0<s.S.length)(ha:s.acts.length≤1048576):Fn G DK [eSp s] (.lst ((orderL s.S.length fun x=>s.S[x]!.X).map eN)):=by
 refine FnP.mk' WF rfl rfl ?_;have hS:=h.sz;have hxb:∀x<s.S.length,∀k∈s.S[x]!.X,k<(s.S.length:Int):=fun x hx k hk=>by
  obtain ⟨j,hj,e⟩:=List.mem_iff_getElem.1 hk;have:=(h.st x hx).x j hj;rw [getElem!_pos _ j hj,e] at this;exact this
 have hvi:=N6 (nx:=fun x=>s.S[x]!.X) h1 hxb;simp only [go_sem,↓reduceIte,↓Aa,QD,eSp,Yv];refine ⟨by omega,by simpa using h1,by simpa using h1,?_⟩;refine Ad (fun (i:Nat) σ=>i≤(bfsAt s.S.length (fun x=>s.S[x]!.X) i).2.length∧∃s10 c10 z1 o2 a3 c3,mv1 0 4 4 σ=⟨aT .undef 53 [(4,.sl 4 s10 [] 0 0 (bfsAt s.S.length (fun x=>s.S[x]!.X) i).2.length),(1,.ptr 0 1 [] 0 0 0),(3,.sl 1 1 [] z1 0 s.S.length),(5,I i)],
  [⟨1,0,.own 2 [.agg [.lst (s.acts.map .str),.lst (s.S.map eSt)]]⟩,⟨1,z1,.own 1 ((bfsAt s.S.length (fun x=>s.S[x]!.X) i).1.map Bo)⟩,o2,⟨a3,c3,.gone⟩,⟨s10,c10,.own 1 ((bfsAt s.S.length (fun x=>s.S[x]!.X) i).2.map eN)⟩],[]⟩) (fun i=>s.S.length+1-i) ?_ 0 ?_
 ·rintro i σ ⟨hi,s10,c10,z1,o2,a3,c3,hσ⟩ N Q hQ hN;have hV:=hvi i;have hVl:=hV.len;rw [LR,hσ];have hbs:bfsAt s.S.length (fun x=>s.S[x]!.X) (i+1)=if i<(bfsAt s.S.length (fun x=>s.S[x]!.X) i).2.length then (s.S[(bfsAt s.S.length (fun x=>s.S[x]!.X) i).2[i]!]!.X).foldl visit (bfsAt s.S.length (fun x=>s.S[x]!.X) i) else bfsAt s.S.length (fun x=>s.S[x]!.X) i:=rfl;generalize hp:bfsAt s.S.length (fun x=>s.S[x]!.X) i=p at *;by_cases hlt:i<p.2.length
  ·have hx:=hV.get hlt;rw [if_pos hlt] at hbs;simp only [go_sem,↓reduceIte,↓Aa,Int.ofNat_lt,hlt,eN,hx,eSt];have hst:=h.st _ hx;have hX:=hst.lx;have hxb2:=hxb _ hx;generalize hX0:s.S[p.2[i]!]! = x at *;have hVs:∀j,VI s.S.length ((x.X.take j).foldl visit p):=fun j=>hV.all _ (fun k hk=>hxb2 k (List.mem_of_mem_take hk));have hns:∀j<x.X.length,(x.X.take (j+1)).foldl visit p=visit ((x.X.take j).foldl visit p) x.X[j]!:=fun j hj=>by rw [List.take_succ_eq_append_getElem hj,List.foldl_append,getElem!_pos x.X j hj];rfl
   refine Ad (fun (j:Nat) σ=>j≤x.X.length∧∃s10 c10 z1 o2 a3 c3,σ=⟨aT .undef 53 [(1,.ptr 0 1 [] 0 0 0),(3,.sl 1 1 [] z1 0 s.S.length),(4,.sl 4 s10 [] 0 0 ((x.X.take j).foldl visit p).2.length),(5,I i),(29,.lst (x.X.map I)),(30,I x.X.length),(31,I j)],
    [⟨1,0,.own 2 [.agg [.lst (s.acts.map .str),.lst (s.S.map eSt)]]⟩,⟨1,z1,.own 1 (((x.X.take j).foldl visit p).1.map Bo)⟩,o2,⟨a3,c3,.gone⟩,⟨s10,c10,.own 1 (((x.X.take j).foldl visit p).2.map eN)⟩],[]⟩) (fun j=>x.X.length-j) ?_ 0 ?_
   ·rintro j σ ⟨hj,s10,c10,z1,o2,a3,c3,rfl⟩ N2 Q2 hQ2 hN2;have hW:=hVs j;have hWl:=hW.len;by_cases hlt2:j<x.X.length
    ·have hn1:=hns j hlt2;have hb:=hst.x j hlt2;generalize (x.X.take j).foldl visit p=w at *;by_cases h0:0≤x.X[j]!
     ·obtain ⟨k,hk⟩:∃k:Nat,x.X[j]! = k:=⟨x.X[j]!.toNat,by omega⟩;have hkn:k<s.S.length:=by omega
      have hkl:k<w.1.length:=by rw [hW.l];exact hkn
      simp only [go_sem,↓reduceIte,↓Aa,Ab hlt2 (by omega),Int.ofNat_lt,hlt2,hk,hkn,hkl,Kh];have hv:visit w (k:Int)=if w.1[k]! = false then (w.1.set k true,w.2++[k]) else w:=by
       unfold visit;rw [Int.toNat_natCast];by_cases hf:w.1[k]! = false
       ·rw [if_pos ⟨by omega,hf⟩,if_pos hf]
       ·rw [if_neg (fun g=>hf g.2),if_neg hf]
      rw [hk,hv] at hn1;refine ⟨fun hf=>⟨⟨by omega,rfl⟩,hN2 (j+1) _ (by omega) ⟨by omega,?_⟩⟩,fun hf=>hN2 (j+1) _ (by omega) ⟨by omega,?_⟩⟩
      ·rw [if_pos hf] at hn1;simp only [go_sem,↓reduceIte,↓Aa,hn1,List.map_append,List.length_append,eN];repeat apply Exists.intro
       rfl
      ·rw [if_neg (by rw [hf];simp)] at hn1;simp only [go_sem,↓reduceIte,↓Aa,hn1];repeat apply Exists.intro
       rfl
     ·have hv:visit w x.X[j]! = w:=by unfold visit;rw [if_neg (fun g=>h0 g.1)]
      rw [hv] at hn1;simp only [go_sem,↓reduceIte,↓Aa,Ab hlt2 (by omega),Int.ofNat_lt,hlt2,h0];refine hN2 (j+1) _ (by omega) ⟨by omega,?_⟩;simp only [go_sem,↓reduceIte,↓Aa,hn1];repeat apply Exists.intro
      rfl
    ·have hjl:j=x.X.length:=by omega
     subst hjl hQ2;rw [List.take_length,←hbs];simp only [go_sem,↓reduceIte,↓Aa,Int.ofNat_lt,hlt2,Ab (show i<s.S.length by omega) (show s.S.length≤1000000000 by omega)];refine hN (i+1) _ (by omega) ⟨?_,?_⟩
     ·rw [hbs];have:=(FC x.X (p:=p)).length_le;omega
     simp only [go_sem,↓reduceIte,↓Aa];rw [Bt rfl (by decide)];simp only [go_sem,↓reduceIte,↓Aa];repeat apply Exists.intro
     rfl
   ·refine ⟨by omega,?_⟩;simp only [go_sem,↓reduceIte,↓Aa,List.take_zero,List.foldl_nil];repeat apply Exists.intro
    rfl
  ·have hil:i=p.2.length:=by omega
   have hend:=AdO h1 hxb (i:=i) (by rw [hp];omega);rw [hp] at hend;subst hQ;simp only [go_sem,↓reduceIte,↓Aa,Int.ofNat_lt,hlt,List.length_map];rw [hend,List.map_map];rfl
 ·refine ⟨by simp [bfsAt],?_⟩;simp only [go_sem,↓reduceIte,↓Aa];rw [Mu (r:=2) rfl rfl rfl (by decide) rfl (by decide)];simp only [go_sem,↓reduceIte,↓Aa,bfsAt,eN];repeat apply Exists.intro
  rfl
theorem orderR_r {s:Spc}(h:SpB s)(h1:0<s.S.length)(ha:s.acts.length≤1048576){roots:List Nat}{b:Nat}{ss:List Nat}{σ:St}{k:AV→St→Prop} :
 callT G DK [.agg [.lst (s.acts.map .str),.lst (s.S.map eSt)]] true roots b ss σ k=k (.lst ((orderL s.S.length fun x=>s.S[x]!.X).map eN)) σ:=(Abz s h h1 ha).rule
theorem HY {s:Spc}:(solidOf s).S.length=s.S.length:=by simp [solidOf]
theorem Ez {s:Spc}{x:Nat}(h:x<s.S.length):(solidOf s).S[x]! = KJ s x:=Aks h
theorem TU {s:Spc}{x:Nat}{v:Int}(h:v∈Ln s x):v∈s.S[x]!.A:=by
 unfold Ln at h;split at h
 ·cases h
 ·exact (List.mem_filter.1 h).1
theorem getAt {α:Type}[Inhabited α]{l:List α}{v:α}(h:v∈l):∃i,i<l.length∧l[i]! = v:=by
 obtain ⟨i,hi,e⟩:=List.mem_iff_getElem.1 h;exact ⟨i,hi,by rw [getElem!_pos l i hi];exact e⟩
theorem Xw {s:Spc}(h:SpB s):SpB (solidOf s):=by
 refine ⟨by rw [HY];exact h.sz,fun i hi=>?_⟩;rw [HY] at hi ⊢;rw [Ez hi];have hst:=h.st i hi;refine ⟨fun j hj=>?_,fun j hj=>?_,?_,?_⟩
 ·obtain ⟨k,hk,e⟩:=getAt (TU (AJ hj));have:=hst.a k hk;simp only [KJ];rw [e] at this;exact this
 ·simp only [KJ,C0] at hj ⊢;rw [Mt hj];split
  ·exact hst.x j hj
  ·omega
 ·simp only [KJ];unfold Ln;split
  ·simp
  ·exact Nat.le_trans (List.length_filter_le _ _) hst.la
 ·simp only [KJ,C0];exact hst.lx
noncomputable def ordOf (s:Spc):List Nat:=orderL s.S.length fun x=>(solidOf s).S[x]!.X
def placeX (l:List Nat)(k:Int):Int:=if 0≤k then (l.idxOf k.toNat:Int) else k
noncomputable def JI (s:Spc)(x:Nat):Stt:=⟨(KJ s x).A,(KJ s x).X.map (placeX (ordOf s))⟩
noncomputable def Am (s:Spc):Spc:=⟨s.acts,(ordOf s).map (JI s)⟩
noncomputable def trimA (s:Spc):Spc×List Nat:=if (Cp s)[0]! then (B5 s.acts,[]) else (Am s,ordOf s)
theorem N8 {s:Spc}(h:SpB s):∀x<s.S.length,∀k∈(solidOf s).S[x]!.X,k<(s.S.length:Int):=fun x hx k hk=>by
 obtain ⟨j,hj,e⟩:=getAt hk;have:=((Xw h).st x (by rw [HY];exact hx)).x j hj;rw [HY] at this;rw [e] at this;exact this
theorem U4 {s:Spc}(h:SpB s)(h1:0<s.S.length):VI s.S.length (bfsAt s.S.length (fun x=>(solidOf s).S[x]!.X) s.S.length):=N6 h1 (N8 h) _
theorem Adt {s:Spc}(h:SpB s)(h1:0<s.S.length):(ordOf s).Nodup:=(U4 h h1).nd
theorem Adc {s:Spc}(h:SpB s)(h1:0<s.S.length){x:Nat}(hx:x∈ordOf s):x<s.S.length:=(((U4 h h1).m x).1 hx).1
theorem SL {s:Spc}(h:SpB s)(h1:0<s.S.length):(ordOf s).length≤s.S.length:=(U4 h h1).len
theorem AaT {n:Nat}{nx:Nat→List Int}(hn:0<n)(hx:∀x<n,∀k∈nx x,k<(n:Int)):∀x∈orderL n nx,∀k∈nx x,0≤k→k.toNat∈orderL n nx:=by
 have vis:∀(ks:List Int) {p:List Bool×List Nat},VI n p→(∀k∈ks,k<(n:Int))→∀k∈ks,0≤k→k.toNat∈(ks.foldl visit p).2:=by
  intro ks;induction ks with
  | nil=>intro p _ _ k hk;cases hk
  | cons j ks ih =>
    intro p hp hks k hk h0;have hv:=hp.visit (hks j (List.mem_cons_self ..));rcases List.mem_cons.1 hk with rfl|hk
    ·have:k.toNat∈(visit p k).2:=by
      have hkn:=hks k (List.mem_cons_self ..);unfold visit;by_cases hf:p.1[k.toNat]! = false
      ·rw [if_pos ⟨h0,hf⟩];simp
      ·rw [if_neg (fun g=>hf g.2),hp.m];exact ⟨by omega,by simpa using hf⟩
     exact (FC ks).subset this
    ·exact ih hv (fun i hi=>hks i (List.mem_cons_of_mem _ hi)) k hk h0
 have key:∀i,∀j<i,j<(bfsAt n nx i).2.length→∀k∈nx (bfsAt n nx i).2[j]!,0≤k→k.toNat∈(bfsAt n nx i).2:=by
  intro i;induction i with
  | zero=>intro j hj;omega
  | succ i ih =>
    intro j hj hjl k hk h0;have hV:=N6 hn hx i;simp only [bfsAt] at hjl hk ⊢;split at hjl
    ·rename_i hil;rw [if_pos hil] at hk ⊢;have hpre:=FC (nx (bfsAt n nx i).2[i]!) (p:=bfsAt n nx i);have hget:∀q<(bfsAt n nx i).2.length,((nx (bfsAt n nx i).2[i]!).foldl visit (bfsAt n nx i)).2[q]! = (bfsAt n nx i).2[q]!:=fun q hq=>by
      obtain ⟨r,hr⟩:=hpre;rw [←hr,List.getElem!_eq_getElem?_getD,List.getElem?_append_left hq,←List.getElem!_eq_getElem?_getD]
     rcases Nat.lt_or_eq_of_le (Nat.le_of_lt_succ hj) with h1|rfl
     ·rw [hget j (by omega)] at hk;exact hpre.subset (ih j h1 (by omega) k hk h0)
     ·rw [hget j hil] at hk;exact vis _ hV (hx _ (hV.get hil)) k hk h0
    ·rename_i hil;rw [if_neg hil] at hk ⊢;exact ih j (by omega) hjl k hk h0
 intro x hxm k hk h0;obtain ⟨j,hj,e⟩:=getAt hxm;unfold orderL at hj e ⊢;have hl:=(N6 hn hx n).len;exact key n j (by omega) hj k (by rw [e];exact hk) h0
theorem LB {s:Spc}(h:SpB s)(h1:0<s.S.length):∀x∈ordOf s,∀k∈(solidOf s).S[x]!.X,0≤k→k.toNat∈ordOf s:=fun x hx k hk h0=>AaT h1 (N8 h) x hx k hk h0
def CN (l:List Nat)(n i:Nat):List Nat:=(List.range n).map fun k=>if k∈l.take i then l.idxOf k else 0
theorem El {l:List Nat}{n i:Nat}:(CN l n i).length=n:=by simp [CN]
theorem R9 {l:List Nat}{n i k:Nat}(h:k<n):(CN l n i)[k]! = if k∈l.take i then l.idxOf k else 0:=Aks h
theorem Ajt {l:List Nat}(hn:l.Nodup){i:Nat}(h:i<l.length):l.idxOf l[i]! = i:=by
 rw [getElem!_pos l i h];exact hn.idxOf_getElem i h
theorem Sg {l:List Nat}{n i:Nat}(hn:l.Nodup)(h:i<l.length):(CN l n i).set l[i]! i=CN l n (i+1):=by
 apply List.ext_getElem?;intro k;rw [List.getElem?_set,El];have e1:∀ {k i:Nat},k<n→(CN l n i)[k]? = some (if k∈l.take i then l.idxOf k else 0):=fun hk=>by simp [CN,hk]
 have hm:∀k,k∈l.take (i+1)↔k∈l.take i∨k=l[i]!:=fun k=>by rw [List.take_succ_eq_append_getElem h,List.mem_append,List.mem_singleton,getElem!_pos l i h]
 by_cases hk:k<n
 ·rw [e1 hk,e1 hk];by_cases e:l[i]! = k
  ·rw [if_pos e,if_pos (by omega),if_pos ((hm k).2 (.inr e.symm)),←e,Ajt hn h]
  ·rw [if_neg e];by_cases hki:k∈l.take i
   ·rw [if_pos hki,if_pos ((hm k).2 (.inl hki))]
   ·rw [if_neg hki,if_neg (fun g=>((hm k).1 g).elim hki (fun g=>e g.symm))]
 ·rw [List.getElem?_eq_none (by rw [El];omega),List.getElem?_eq_none (by rw [El];omega)];split
  ·rw [if_neg (by omega)]
  ·rfl
theorem YO {l:List Nat}{i v:Nat}:(l.map eN).set i (.int .i64 (v:Nat))=(l.set i v).map eN:=by rw [List.map_set];rfl
theorem XM {s:Spc}(h1:0<s.S.length):0<(Cp s).length:=by simp [Cp];exact h1
def AiI (x:Stt):AV:=.agg [.lst (x.A.map I),cellv .nils 1 (x.X.map I)]
theorem Ae6 (x:Stt):frz (AiI x)=eSt x:=by
 have h:∀l:List Int,(l.map I).map frz=l.map I:=fun l=>by rw [List.map_map];rfl
 simp only [AiI,eSt,go_sem,h]
theorem Af5 (s:Spc)(h:SpB s)(h1:0<s.S.length)(h8:s.acts.length≤8):Fn G C5 [eSp s] (.tup [eSp (trimA s).1,.lst ((trimA s).2.map eN)]):=by
 have hS:=h.sz;have h0:=XM h1;have hord:∀ {roots:List Nat}{b:Nat}{ss:List Nat}{σ:St}{k:AV→St→Prop},callT G DK [.agg [.lst ((solidOf s).acts.map .str),.lst ((solidOf s).S.map eSt)]] true roots b ss σ k=k (.lst ((ordOf s).map eN)) σ:=by
  intro roots b ss σ k;have:=orderR_r (Xw h) (by rw [HY];exact h1) (show (solidOf s).acts.length≤1048576 by simp only [solidOf];omega) (roots:=roots) (b:=b) (ss:=ss) (σ:=σ) (k:=k);rw [HY] at this;exact this
 have hsolid:∀ {roots:List Nat}{b:Nat}{ss:List Nat}{σ:St}{k:AV→St→Prop},callT G Fq [.agg [.lst (s.acts.map .str),.lst (s.S.map eSt)]] true roots b ss σ k=k (eSp (solidOf s)) σ:=(Age s h (by omega)).rule;have hsa:(solidOf s).acts=s.acts:=rfl;have hsl:=@HY s;have hol:=SL h h1;have hond:=Adt h h1;have hcl:=LB h h1;cases hh:(Cp s)[0]! with
 | true =>
   have e:trimA s=(B5 s.acts,[]):=by unfold trimA;rw [if_pos hh]
   rw [e];refine FnP.mk' Sk rfl rfl ?_;simp only [go_sem,↓reduceIte,↓Aa,NE,eSp,Po h,h0,hh,ZC h8]
 | false =>
   have e:trimA s=(Am s,ordOf s):=by unfold trimA;rw [if_neg (by rw [hh];simp)]
   rw [e];refine FnP.mk' Sk rfl rfl ?_;simp only [go_sem,↓reduceIte,↓Aa,NE,eSp,Po h,h0,hh,hsolid,hord];have hol2:∀x∈ordOf s,x<s.S.length:=fun x hx=>Adc h h1 hx;generalize hl:ordOf s=l at *;refine ⟨by omega,?_⟩;refine Ad (fun (i:Nat) σ=>i≤l.length∧σ=⟨aT .undef 92 [(1,.ptr 0 1 [] 0 0 0),(2,.ptr 1 1 [] 0 0 0),(4,.ptr 2 1 [] 0 0 0),(5,.lst (l.map eN)),(6,.sl 3 1 [] 0 0 s.S.length),(30,.lst (l.map eN)),(31,I l.length),(32,I i)],
    [⟨1,0,.own 2 [.agg [.lst (s.acts.map .str),.lst (s.S.map eSt)]]⟩,⟨1,0,.own 2 [.agg [.nils,.nils]]⟩,⟨1,0,.own 2 [.agg [.lst ((solidOf s).acts.map .str),.lst ((solidOf s).S.map eSt)]]⟩,⟨1,0,.own 1 ((CN l s.S.length i).map eN)⟩,⟨0,0,.gone⟩,⟨0,0,.gone⟩,⟨0,0,.gone⟩,⟨0,0,.gone⟩,⟨0,0,.gone⟩,⟨0,0,.gone⟩,⟨0,0,.gone⟩],[]⟩) (fun i=>l.length-i) ?_ 0 ?_
   ·rintro i σ ⟨hi,rfl⟩ N Q hQ hN;by_cases hlt:i<l.length
    ·have hx:=hol2 _ (AJ hlt);have hpl:=@El l s.S.length i;simp only [go_sem,↓reduceIte,↓Aa,Ab hlt (by omega),Int.ofNat_lt,hlt,eN,hx,hpl,YO];refine hN (i+1) _ (by omega) ⟨by omega,?_⟩;simp only [go_sem,↓reduceIte,↓Aa,Sg hond hlt]
    ·have hil:i=l.length:=by omega
     subst hil hQ;simp only [go_sem,↓reduceIte,↓Aa,Int.ofNat_lt,hlt];refine ⟨by omega,?_⟩;refine Ad (fun (i:Nat) σ=>i≤l.length∧∃a4 c4 z5 a6 c6 a7 c7 a8 c8 a9 c9 a10 c10,σ=⟨aT .undef 92 [(2,.ptr 1 1 [] 0 0 0),(4,.ptr 2 1 [] 0 0 0),(5,.lst (l.map eN)),(6,.sl 3 1 [] 0 0 s.S.length),(9,.ptr 5 1 [] 0 0 0),(46,.lst (l.map eN)),(47,I l.length),(48,I i)],
      [⟨1,0,.own 2 [.agg [.lst (s.acts.map .str),.lst (s.S.map eSt)]]⟩,⟨1,0,.own 2 [.agg [.nils,.nils]]⟩,⟨1,0,.own 2 [.agg [.lst ((solidOf s).acts.map .str),.lst ((solidOf s).S.map eSt)]]⟩,⟨1,0,.own 1 ((CN l s.S.length l.length).map eN)⟩,⟨a4,c4,.gone⟩,⟨1,z5,.own 2 [.agg [cellv .nils 1 (s.acts.map .str),cellv .nils 2 (((l.take i).map (JI s)).map AiI)]]⟩,⟨a6,c6,.gone⟩,⟨a7,c7,.gone⟩,⟨a8,c8,.gone⟩,⟨a9,c9,.gone⟩,⟨a10,c10,.gone⟩],[]⟩) (fun i=>l.length-i) ?_ 0 ?_
     ·rintro i σ ⟨hi,a4,c4,z5,a6,c6,a7,c7,a8,c8,a9,c9,a10,c10,rfl⟩ N Q hQ hN;by_cases hlt:i<l.length
      ·have hx:=hol2 _ (AJ hlt);have hxs:l[i]! < (solidOf s).S.length:=by rw [hsl];exact hx
       have hst:=(Xw h).st _ hxs;have hX:=hst.lx;have hgx:=Ez hx;have hts:JI s l[i]! = ⟨(KJ s l[i]!).A,(KJ s l[i]!).X.map (placeX l)⟩:=by unfold JI;rw [hl]
       rw [←hgx] at hts;simp only [go_sem,↓reduceIte,↓Aa,Ab hlt (by omega),Int.ofNat_lt,hlt,eN,hxs,eSt];have hmem:∀k∈(solidOf s).S[l[i]!]!.X,0≤k→k.toNat∈l:=hcl _ (AJ hlt);generalize hx0:(solidOf s).S[l[i]!]! = x at *;refine Ad (fun (j:Nat) σ=>j≤x.X.length∧∃z6 a7 c7 a8 c8,σ=⟨aT .undef 92 [(2,.ptr 1 1 [] 0 0 0),(4,.ptr 2 1 [] 0 0 0),(5,.lst (l.map eN)),(6,.sl 3 1 [] 0 0 s.S.length),(9,.ptr 5 1 [] 0 0 0),(12,.ptr 6 (a6+1) [] 0 0 0),(46,.lst (l.map eN)),(47,I l.length),(48,I i),(64,.lst (x.X.map I)),(65,I x.X.length),(66,I j)],
        [⟨1,0,.own 2 [.agg [.lst (s.acts.map .str),.lst (s.S.map eSt)]]⟩,⟨1,0,.own 2 [.agg [.nils,.nils]]⟩,⟨1,0,.own 2 [.agg [.lst ((solidOf s).acts.map .str),.lst ((solidOf s).S.map eSt)]]⟩,⟨1,0,.own 1 ((CN l s.S.length l.length).map eN)⟩,⟨a4,c4,.gone⟩,⟨1,z5,.own 2 [.agg [cellv .nils 1 (s.acts.map .str),cellv .nils 2 (((l.take i).map (JI s)).map AiI)]]⟩,⟨a6+1,z6,.own 2 [.agg [.lst (x.A.map I),cellv .nils 1 (((x.X.take j).map (placeX l)).map I)]]⟩,⟨a7,c7,.gone⟩,⟨a8,c8,.gone⟩,⟨a9,c9,.gone⟩,⟨a10,c10,.gone⟩],[]⟩) (fun j=>x.X.length-j) ?_ 0 ?_
       ·rintro j σ ⟨hj,z6,a7,c7,a8,c8,rfl⟩ N2 Q2 hQ2 hN2;by_cases hlt2:j<x.X.length
        ·have hb:=hst.x j hlt2;have htl:(List.take j x.X).length≤j:=by rw [List.length_take];omega
         rw [hsl] at hb;by_cases h0:0≤x.X[j]!
         ·obtain ⟨k,hk⟩:∃k:Nat,x.X[j]! = k:=⟨x.X[j]!.toNat,by omega⟩;have hkn:k<s.S.length:=by omega
          have hkl:k<(CN l s.S.length l.length).length:=by rw [El];exact hkn
          have hkm:k∈l:=by have:=hmem x.X[j]! (AJ hlt2) h0;rw [hk,Int.toNat_natCast] at this;exact this
          have hpg:(CN l s.S.length l.length)[k]! = l.idxOf k:=by rw [R9 hkn,List.take_length,if_pos hkm]
          have hpx:placeX l (k:Int)=(l.idxOf k:Int):=by unfold placeX;rw [if_pos (by omega),Int.toNat_natCast]
          simp only [go_sem,↓reduceIte,↓Aa,Ab hlt2 (by omega),Int.ofNat_lt,hlt2,hk,hkn,hkl,eN,hpg];refine ⟨by omega,hN2 (j+1) _ (by omega) ⟨by omega,?_⟩⟩;simp only [go_sem,↓reduceIte,↓Aa,EK _ hlt2,hk,hpx,List.map_append,List.map_cons,List.map_nil];repeat apply Exists.intro
          rfl
         ·have hpx:placeX l x.X[j]! = x.X[j]!:=by unfold placeX;rw [if_neg h0]
          simp only [go_sem,↓reduceIte,↓Aa,Ab hlt2 (by omega),Int.ofNat_lt,hlt2,h0];refine ⟨by omega,hN2 (j+1) _ (by omega) ⟨by omega,?_⟩⟩;simp only [go_sem,↓reduceIte,↓Aa,EK _ hlt2,hpx,List.map_append,List.map_cons,List.map_nil];repeat apply Exists.intro
          rfl
        ·have hjl:j=x.X.length:=by omega
         subst hjl hQ2;simp only [go_sem,↓reduceIte,↓Aa,Int.ofNat_lt,hlt2,Ab hlt (show l.length≤1000000000 by omega)];refine ⟨by rw [List.length_take];omega,hN (i+1) _ (by omega) ⟨by omega,?_⟩⟩;simp only [go_sem,↓reduceIte,↓Aa,EK _ hlt,hts,AiI,List.take_length,List.map_append,List.map_cons,List.map_nil];repeat apply Exists.intro
         rfl
       ·refine ⟨by omega,?_⟩;simp only [go_sem,↓reduceIte,↓Aa,List.take_zero,List.map_nil];repeat apply Exists.intro
        rfl
      ·have hil:i=l.length:=by omega
       subst hil hQ;simp only [go_sem,↓reduceIte,↓Aa,Int.ofNat_lt,hlt,List.take_length];have e2:∀q:List Stt,(q.map AiI).map frz=q.map eSt:=fun q=>by rw [List.map_map];congr 1;funext x;exact Ae6 x
       rw [e2];simp only [eSp,Am,hl]
     ·refine ⟨by omega,?_⟩;simp only [go_sem,↓reduceIte,↓Aa,List.take_zero,List.map_nil];repeat apply Exists.intro
      rfl
   ·refine ⟨by omega,?_⟩;have e0:(CN l s.S.length 0).map eN=List.replicate s.S.length (AV.int .i64 0):=by
     apply List.ext_getElem (by simp [CN]);intro j h1 h2;simp [CN,eN]
    simp only [go_sem,↓reduceIte,↓Aa,e0]
theorem AdQ {s:Spc}(h:SpB s)(h1:0<s.S.length)(h8:s.acts.length≤8){roots:List Nat}{b:Nat}{ss:List Nat}{σ:St}{k:AV→St→Prop} :
 callT G C5 [.agg [.lst (s.acts.map .str),.lst (s.S.map eSt)]] true roots b ss σ k=k (.tup [eSp (trimA s).1,.lst ((trimA s).2.map eN)]) σ:=(Af5 s h h1 h8).rule
theorem Aax:∀ {n:Nat}{l:List Int},(∀i<l.length,0≤l[i]!∧l[i]! < (n:Int))→(∀i<l.length,0<i→l[i-1]! < l[i]!)→l.length≤n:=by
 intro n l h1 h2;have key:∀i<l.length,(i:Int)≤l[i]!:=by
  intro i;induction i with
  | zero=>intro hi;exact (h1 0 hi).1
  | succ i ih=>intro hi;have:=ih (by omega);have:=h2 (i+1) hi (by omega);simp only [Nat.add_sub_cancel] at this;omega
 rcases Nat.eq_zero_or_pos l.length with h|h
 ·omega
 ·have:=key (l.length-1) (by omega);have:=(h1 (l.length-1) (by omega)).2;omega
theorem SpcK.alen {m:Nat}{s:Spc}(h:SpcK m s){x:Nat}(hx:x<s.S.length):s.S[x]!.A.length≤256:=by
 have h8:=Ax h.acts;have h28:2 ^ s.acts.length≤2 ^ 8:=Nat.pow_le_pow_right (by omega) h8;exact Nat.le_trans (Aax (h.st x hx).a (h.st x hx).ris) h28
theorem SpcK.sz {m:Nat}{s:Spc}(h:SpcK m s):SpSz s:=by
 have h8:=Ax h.acts;have h2:=h.s2;exact ⟨by omega,by omega,fun i hi=>⟨by have:=h.alen hi;omega,by rw [(h.st i hi).len];omega⟩⟩
theorem SpcK.i {m:Nat}{s:Spc}(h:SpcK m s):SpI s:=fun i hi j hj=>by
 have h8:=Ax h.acts;have h28:2 ^ s.acts.length≤2 ^ 8:=Nat.pow_le_pow_right (by omega) h8;have:=(h.st i hi).a j hj;omega
structure TSpcK (m:Nat)(s:Spc):Prop where
 ok:SpcK m s
 tight:∀x<s.S.length,∀a<s.S[x]!.X.length,0≤s.S[x]!.X[a]!→∃v∈s.S[x]!.A,hasA v a=true
theorem UW {m:Nat}{s:Spc}(h:SpcK m s){x:Nat}(hx:x<s.S.length){a:Nat}(ha:a<s.S[x]!.X.length):(usedN (Ln s x)).testBit a=true→0≤s.S[x]!.X[a]!:=fun hu=>by
 obtain ⟨v,hv,hb⟩:=DI.1 hu;obtain ⟨j,hj,e⟩:=getAt (TU hv);exact (h.st x hx).has j hj a (by rw [←(h.st x hx).len];exact ha) (by rw [e];exact hb)
theorem K9 {l:List Int}(h:∀i<l.length,0<i→l[i-1]! < l[i]!):l.Pairwise (· < ·):=by
 have key:∀j,∀i<j,j<l.length→l[i]! < l[j]!:=by
  intro j;induction j with
  | zero=>intro i hi;omega
  | succ j ih =>
    intro i hi hj;have h1:=h (j+1) hj (by omega);simp only [Nat.add_sub_cancel] at h1;rcases Nat.lt_or_eq_of_le (Nat.le_of_lt_succ hi) with h2|rfl
    ·have:=ih i h2 (by omega);omega
    ·exact h1
 refine List.pairwise_iff_getElem.2 (fun i j hi hj hij=>?_);have:=key j i hij hj;rwa [getElem!_pos l i hi,getElem!_pos l j hj] at this
theorem Ahl {m:Nat}{s:Spc}(h:SpcK m s){x:Nat}(hx:x<s.S.length):(Ln s x).Pairwise (· < ·):=by
 unfold Ln;split
 ·exact List.Pairwise.nil
 ·exact (K9 (h.st x hx).ris).filter _
theorem Abv {l:List Nat}{k:Int}(h1 : -1≤k)(h2:0≤k→k.toNat∈l) : -1≤placeX l k∧placeX l k<(l.length:Int):=by
 unfold placeX;split
 ·rename_i h0;have:=List.idxOf_lt_length_of_mem (h2 h0);omega
 ·omega
theorem KR {s:Spc}(h:SpB s)(h1:0<s.S.length):0<(ordOf s).length:=(U4 h h1).pos
theorem MS {s:Spc}(h:SpB s)(h1:0<s.S.length):(ordOf s)[0]! = 0:=by
 rw [List.getElem!_eq_getElem?_getD,show (ordOf s)[0]? = some 0 from (U4 h h1).z];rfl
theorem MB {s:Spc}{x a:Nat}(ha:a<s.S[x]!.X.length):(KJ s x).X[a]! = if (usedN (Ln s x)).testBit a then s.S[x]!.X[a]! else -1:=Mt ha
theorem Pk {s:Spc}{x a:Nat}(ha:a<s.S[x]!.X.length):(JI s x).X[a]! = placeX (ordOf s) (if (usedN (Ln s x)).testBit a then s.S[x]!.X[a]! else -1):=by
 have hl:a<(KJ s x).X.length:=by simp only [KJ,C0];exact ha
 rw [←MB ha];simp only [JI];rw [getElem!_pos _ a (by rw [List.length_map];exact hl),List.getElem_map,getElem!_pos _ a hl]
theorem Pt {s:Spc}{x:Nat}:(JI s x).X.length=s.S[x]!.X.length:=by simp [JI,KJ,C0]
theorem Lq {s:Spc}{i:Nat}(h:i<(ordOf s).length):(Am s).S[i]! = JI s (ordOf s)[i]!:=by
 simp only [Am];rw [getElem!_pos _ i (by simpa using h),List.getElem_map,getElem!_pos (ordOf s) i h]
theorem NP {m:Nat}{s:Spc}(h:SpcK m s):TSpcK m (Am s):=by
 have hb:=h.b h.sz;have h1:0<s.S.length:=h.s1;have hL:=SL hb h1;have hp:=KR hb h1;have hlen:(Am s).S.length=(ordOf s).length:=by simp [Am]
 refine ⟨⟨h.acts,by rw [hlen];omega,by rw [hlen];have:=h.s2;omega,fun i hi=>?_⟩,fun i hi a ha h0=>?_⟩
 ·rw [hlen] at hi ⊢;have hx:=Adc hb h1 (AJ hi);rw [Lq hi];have hcl:=LB hb h1 _ (AJ hi);rw [Ez hx] at hcl;generalize (ordOf s)[i]! = x at *;have hst:=h.st x hx;have hXl:s.S[x]!.X.length=s.acts.length:=hst.len;have hget:∀a<s.acts.length,-1≤(KJ s x).X[a]!∧(0≤(KJ s x).X[a]!→(KJ s x).X[a]!.toNat∈ordOf s):=fun a ha=>by
   have hm:(KJ s x).X[a]!∈(KJ s x).X:=AJ (by simp only [KJ,C0];omega);refine ⟨?_,hcl _ hm⟩;rw [MB (by omega)];split
   ·exact (hst.x a ha).1
   ·omega
  refine ⟨by rw [Pt];exact hXl,fun j hj=>?_,fun j hj h0=>Wx (Ahl h hx) hj h0,fun a ha=>?_,fun j hj a ha hb2=>?_⟩
  ·obtain ⟨k,hk,e⟩:=getAt (TU (AJ (l:=Ln s x) hj));have:=hst.a k hk;rw [e] at this;exact this
  ·have ha':a<s.acts.length:=ha;rw [Pk (by omega),←MB (by omega)];exact Abv (hget a ha).1 (hget a ha).2
  ·have ha':a<s.acts.length:=ha;have hu:(usedN (Ln s x)).testBit a=true:=DI.2 ⟨_,AJ (l:=Ln s x) hj,hb2⟩;rw [Pk (by omega),if_pos hu];have:=UW h hx (by omega) hu;unfold placeX;rw [if_pos this];omega
 ·rw [hlen] at hi;rw [Lq hi] at ha h0 ⊢;rw [Pt] at ha;rw [Pk ha] at h0;by_cases hu:(usedN (Ln s (ordOf s)[i]!)).testBit a=true
  ·exact DI.1 hu
  ·rw [if_neg hu] at h0;unfold placeX at h0;simp at h0
theorem Y0 {m:Nat}(hm:1≤m){l:List ByteArray}(h:actsOk l=true):TSpcK m (B5 l):=by
 refine ⟨⟨h,by simp [B5],by simp only [B5,List.length_singleton];omega,fun i hi=>?_⟩,fun i hi a ha h0=>?_⟩
 ·have:i=0:=by simp [B5] at hi;exact hi
  subst this;simp only [B5,List.length_singleton];refine ⟨by simp,by simp,by simp,fun a ha=>?_,by simp⟩;simp only [List.getElem!_cons_zero];rw [getElem!_pos _ a (by simpa using ha)];simp
 ·have:i=0:=by simp [B5] at hi;exact hi
  subst this;simp only [B5,List.getElem!_cons_zero,List.length_replicate] at ha h0;rw [getElem!_pos _ a (by simpa using ha)] at h0;simp at h0
theorem YC {m:Nat}{s:Spc}(h:SpcK m s):TSpcK m (trimA s).1∧(trimA s).1.acts=s.acts:=by
 unfold trimA;split
 ·exact ⟨Y0 (by have:=h.s1;have:=h.s2;omega) h.acts,rfl⟩
 ·exact ⟨NP h,rfl⟩
def subP (s t:Spc)(x y:Nat):Prop:=∀v∈s.S[x]!.A,v∈t.S[y]!.A
structure Closed2 (s t:Spc)(P:Nat→Nat→Prop):Prop where
 z:P 0 0
 n:∀x y,P x y→subP s t x y→∀a<s.S[x]!.X.length,0≤s.S[x]!.X[a]!→P s.S[x]!.X[a]!.toNat t.S[y]!.X[a]!.toNat
def Rch2 (s t:Spc)(x y:Nat):Prop:=∀P,Closed2 s t P→P x y
def Ref (s t:Spc):Prop:=∀x y,Rch2 s t x y→subP s t x y
theorem Rch2.closed (s t:Spc):Closed2 s t (Rch2 s t):=⟨fun P h=>h.z,fun x y h hg a ha h0 P hP=>hP.n x y (h P hP) hg a ha h0⟩
theorem Y5 {s t:Spc}{P:Nat→Nat→Prop}(h:Closed2 s t P)(hg:∀x y,P x y→subP s t x y):Ref s t:=fun x y hr=>hg x y (hr P h)
theorem Ab3 {m q:Nat}{s t:Spc}(hs:TSpcK m s)(ht:SpcK q t)(he:s.acts.length=t.acts.length){x y:Nat}(hx:x<s.S.length)(hy:y<t.S.length)(hg:subP s t x y){a:Nat}(ha:a<s.S[x]!.X.length)(h0:0≤s.S[x]!.X[a]!) :
 s.S[x]!.X[a]! < (s.S.length:Int)∧a<t.S[y]!.X.length∧0≤t.S[y]!.X[a]!∧t.S[y]!.X[a]! < (t.S.length:Int):=by
 obtain ⟨v,hv,hb⟩:=hs.tight x hx a ha h0;obtain ⟨j,hj,e⟩:=getAt (hg v hv);have h1:=(hs.ok.st x hx).len;have h2:=(ht.st y hy).len;refine ⟨((hs.ok.st x hx).x a (by omega)).2,by omega,(ht.st y hy).has j hj a (by omega) (by rw [e];exact hb),((ht.st y hy).x a (by omega)).2⟩
theorem Rch2.lt {m q:Nat}{s t:Spc}(hs:TSpcK m s)(ht:SpcK q t)(he:s.acts.length=t.acts.length){x y:Nat}(h:Rch2 s t x y):x<s.S.length∧y<t.S.length:=by
 refine h (fun x y=>x<s.S.length∧y<t.S.length) ⟨⟨by have:=hs.ok.s1;omega,by have:=ht.s1;omega⟩,?_⟩;rintro x y ⟨hx,hy⟩ hg a ha h0;have:=Ab3 hs ht he hx hy hg ha h0;omega
structure RI2 (s t:Spc)(M:List (List Bool))(W:List (Nat×Nat)):Prop where
 sz:MSz M s.S.length t.S.length
 z:Met M 0 0
 r:∀x y,Met M x y→Rch2 s t x y
 w:∀p∈W,Met M p.1 p.2
 c:∀x y,Met M x y→(x,y)∈W∨(subP s t x y∧∀a<s.S[x]!.X.length,0≤s.S[x]!.X[a]!→Met M s.S[x]!.X[a]!.toNat t.S[y]!.X[a]!.toNat)
theorem RI2.lt {s t:Spc}{M:List (List Bool)}{W:List (Nat×Nat)}(h:RI2 s t M W){m q:Nat}(hs:TSpcK m s)(ht:SpcK q t)(he:s.acts.length=t.acts.length){p:Nat×Nat}(hp:p∈W):p.1<s.S.length∧p.2<t.S.length:=(h.r _ _ (h.w p hp)).lt hs ht he
theorem RI2.meet {s t:Spc}{M:List (List Bool)}{W:List (Nat×Nat)}(h:RI2 s t M W){x y:Nat}(hx:x<s.S.length)(hy:y<t.S.length)(hr:Rch2 s t x y):RI2 s t (YA M x y) (W++[(x,y)]):=by
 have g:=fun {x' y'}=>@setM_get M _ _ x y h.sz hx hy x' y';refine ⟨WN h.sz hx,g.2 (.inr h.z),fun x' y' hm=>?_,fun p hp=>?_,fun x' y' hm=>?_⟩
 ·rcases g.1 hm with ⟨rfl,rfl⟩|hm
  ·exact hr
  ·exact h.r _ _ hm
 ·rw [List.mem_append,List.mem_singleton] at hp;rcases hp with hp|rfl
  ·exact g.2 (.inr (h.w p hp))
  ·exact g.2 (.inl ⟨rfl,rfl⟩)
 ·rcases g.1 hm with ⟨rfl,rfl⟩|hm
  ·exact .inl (List.mem_append_right _ (List.mem_singleton_self _))
  ·rcases h.c _ _ hm with h1|⟨h1,h2⟩
   ·exact .inl (List.mem_append_left _ h1)
   ·exact .inr ⟨h1,fun i hi h0=>g.2 (.inr (h2 i hi h0))⟩
theorem RI2.done {s t:Spc}{M:List (List Bool)}{p:Nat×Nat}{W:List (Nat×Nat)}(h:RI2 s t M (p::W))(hg:subP s t p.1 p.2)(hd:∀a<s.S[p.1]!.X.length,0≤s.S[p.1]!.X[a]!→Met M s.S[p.1]!.X[a]!.toNat t.S[p.2]!.X[a]!.toNat):RI2 s t M W:=by
 refine ⟨h.sz,h.z,h.r,fun q hq=>h.w q (List.mem_cons_of_mem _ hq),fun x y hm=>?_⟩;rcases h.c x y hm with h1|h1
 ·rcases List.mem_cons.1 h1 with rfl|h1
  ·exact .inr ⟨hg,hd⟩
  ·exact .inl h1
 ·exact .inr h1
theorem RI2.fin {s t:Spc}{M:List (List Bool)}(h:RI2 s t M []):Ref s t:=by
 refine Y5 (P:=Met M) ⟨h.z,fun x y hm hg a ha h0=>?_⟩ (fun x y hm=>?_)
 ·rcases h.c x y hm with h1|h1
  ·cases h1
  ·exact h1.2 a ha h0
 ·rcases h.c x y hm with h1|h1
  ·cases h1
  ·exact h1.1
theorem bfs_all {n:Nat}{nx:Nat→List Int}{P:Nat→Prop}(h0:P 0)(hn:∀x,P x→∀k∈nx x,0≤k→P k.toNat):∀i,∀x∈(bfsAt n nx i).2,P x:=by
 have vis:∀(ks:List Int) (p:List Bool×List Nat),(∀x∈p.2,P x)→(∀k∈ks,0≤k→P k.toNat)→∀x∈(ks.foldl visit p).2,P x:=by
  intro ks;induction ks with
  | nil=>intro p hp _;exact hp
  | cons k ks ih =>
    intro p hp hk;refine ih _ (fun x hx=>?_) (fun j hj=>hk j (List.mem_cons_of_mem _ hj));unfold visit at hx;split at hx
    ·rename_i hc;simp only [List.mem_append,List.mem_singleton] at hx;rcases hx with hx|rfl
     ·exact hp x hx
     ·exact hk k (List.mem_cons_self ..) hc.1
    ·exact hp x hx
 intro i;induction i with
 | zero=>intro x hx;simp [bfsAt] at hx;subst hx;exact h0
 | succ i ih =>
   simp only [bfsAt];split
   ·rename_i hl;exact vis _ _ ih (fun k hk hk0=>hn _ (ih _ (AJ hl)) k hk hk0)
   ·exact ih
theorem YT {n:Nat}{nx:Nat→List Int}{i:Nat}:∀j,(bfsAt n nx i).2 <+: (bfsAt n nx (i+j)).2:=by
 intro j;induction j with
 | zero=>exact List.prefix_refl _
 | succ j ih =>
   refine ih.trans ?_;rw [←Nat.add_assoc];simp only [bfsAt];split
   ·exact FC _
   ·exact List.prefix_refl _
theorem EN {α:Type}[Inhabited α]{l k:List α}(h:l <+: k){i:Nat}(hi:i<l.length):k[i]! = l[i]!:=by
 obtain ⟨r,rfl⟩:=h;rw [getElem!_pos _ i (by rw [List.length_append];omega),List.getElem_append_left hi,getElem!_pos l i hi]
theorem Ae8 {x:Stt}{st n:Nat}(h:SttOk x st n){j:Nat}(hj:j<x.A.length){P:Nat→Prop}:Dies x P x.A[j]!↔∃a,hasA x.A[j]! a=true∧P x.X[a]!.toNat:=by
 constructor
 ·rintro ⟨a,_,_,h3,h4⟩;exact ⟨a,h3,h4⟩
 ·rintro ⟨a,h3,h4⟩;have ha:a<n:=AO (n:=x.A[j]!.toNat) (by have:=h.a j hj;omega) h3;exact ⟨a,by rw [h.len];exact ha,h.has j hj a ha h3,h3,h4⟩
theorem AdK {s:Spc}{x:Nat}{v:Int}(h:v∈keptL s x):v∈s.S[x]!.A∧¬Dies s.S[x]! (inB (Cp s)) v:=by
 unfold keptL at h;have:=List.mem_filter.1 h;exact ⟨this.1,by simpa using this.2⟩
theorem Qa {m:Nat}{s:Spc}(h:SpcK m s)(h0:(Cp s)[0]! = false):∀i,∀x∈(bfsAt s.S.length (fun x=>(solidOf s).S[x]!.X) i).2,x<s.S.length∧(Cp s)[x]! = false:=by
 refine bfs_all ⟨h.s1,h0⟩ ?_;rintro x ⟨hx,hhx⟩ k hk hk0;have hkl:=N8 (h.b h.sz) x hx k hk;refine ⟨by omega,?_⟩;simp only [Ez hx] at hk;obtain ⟨a,ha,e⟩:=getAt hk;simp only [KJ,C0] at ha;have e2:(KJ s x).X[a]! = k:=e;rw [MB ha] at e2;by_cases hu:(usedN (Ln s x)).testBit a=true
 ·rw [if_pos hu] at e2;obtain ⟨v,hv,hb⟩:=DI.1 hu;have hv2:v∈keptL s x:=by unfold Ln at hv;rw [if_neg (by rw [hhx];simp)] at hv;exact hv
  obtain ⟨hv3,hv4⟩:=AdK hv2;cases hb2:(Cp s)[k.toNat]! with
  | false=>rfl
  | true =>
    refine absurd ⟨a,ha,by rw [e2];exact hk0,hb,?_⟩ hv4;rw [e2];exact hb2
 ·rw [if_neg hu] at e2;omega
open Classical in
theorem De {s:Spc}{x:Nat}(hx:x<s.S.length):(Cp s)[x]! = true↔Hol s x:=by
 unfold Cp;rw [T2 hx,decide_eq_true_eq]
theorem W7 {m:Nat}{s:Spc}(h:SpcK m s){x:Nat}(hx:x<s.S.length)(hh:(Cp s)[x]! = false):keptL s x≠[]:=by
 intro he;have hno:¬Hol s x:=by
  intro hH;have:=(De hx).2 hH;rw [hh] at this;cases this
 refine hno (Hol.closed s x hx (fun i hi=>?_));refine Classical.byContradiction fun hnd=>?_;have:s.S[x]!.A[i]!∈keptL s x:=by
  unfold keptL;refine List.mem_filter.2 ⟨AJ hi,?_⟩;have:¬Dies s.S[x]! (inB (Cp s)) s.S[x]!.A[i]!:=fun hd=>hnd (by
   obtain ⟨a,h1,h2,h3,h4⟩:=hd;refine ⟨a,h1,h2,h3,?_⟩;unfold inB at h4;have hlt:s.S[x]!.X[a]!.toNat<s.S.length:=by have:=((h.st x hx).x a (by rw [←(h.st x hx).len];exact h1)).2;omega
   exact (De hlt).1 h4)
  simpa using this
 rw [he] at this;cases this
theorem onlyX_vis {x:Stt}{u j:Nat}{p:List Bool×List Nat}:(onlyX x u (j+1)).foldl visit p=if u.testBit j then visit ((onlyX x u j).foldl visit p) x.X[j]! else (onlyX x u j).foldl visit p:=by
 rw [Sj,List.foldl_append];by_cases h:u.testBit j
 ·rw [if_pos h,if_pos h];rfl
 ·rw [if_neg h,if_neg h];simp [visit]
theorem VL {x:Stt}{u j:Nat}{p:List Bool×List Nat}(h:∀b,j≤b→u.testBit b=false):∀k,(onlyX x u (j+k)).foldl visit p=(onlyX x u j).foldl visit p:=by
 intro k;induction k with
 | zero=>rfl
 | succ k ih=>rw [←Nat.add_assoc,onlyX_vis,if_neg (by rw [h (j+k) (by omega)];simp),ih]
theorem Ac2 {x:Stt}{u j k:Nat}{p:List Bool×List Nat}(hj:u<2 ^ j)(hk:u<2 ^ k):(onlyX x u j).foldl visit p=(onlyX x u k).foldl visit p:=by
 rcases Nat.le_total j k with h|h
 ·have:=VL (x:=x) (u:=u) (j:=j) (p:=p) (fun b hb=>testBit_big hj hb) (k-j);rw [show j+(k-j)=k by omega] at this;exact this.symm
 ·have:=VL (x:=x) (u:=u) (j:=k) (p:=p) (fun b hb=>testBit_big hk hb) (j-k);rw [show k+(j-k)=j by omega] at this;exact this
end Go.Mw
