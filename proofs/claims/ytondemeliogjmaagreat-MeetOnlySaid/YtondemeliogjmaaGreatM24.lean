/- The elements of two sorted lists, each once: slices.Compact, meet.either. -/
import Derived.Test.YtondemeliogjmaaGreatM23
set_option linter.unusedVariables false
set_option linter.unusedSimpArgs false
namespace Go.Mw
set_option maxRecDepth 100000
theorem wpI_clr_dh {z:AV}{x:Opd}{b:Nat}{t:List AV}{lp:List Lp}{H:List Ob}{r st ss s0 off len:Nat}{l:List Int}{k:AV→St→Prop}(hr:r<H.length)(hz:z.plain=true)(hl:off+len≤l.length)
 (hx:(⟨t,dh H r st ss l,lp⟩:St).get x = .sl r st [] s0 off len) (z0:Int) (hz0:z=I z0) :
 wpI G (.clr z x) b ⟨t,dh H r st ss l,lp⟩ k=k (.tup []) ⟨t,dh H r st ss (l.take off++List.replicate len z0++l.drop (off+len)),lp⟩:=by
 subst hz0;have hn:node (dh H r st ss l) r st [] s0=some (.own 1 (l.map I)):=Uz.2 ⟨_,Oo hr,rfl,rfl⟩;have hp:(l.map I).all AV.plain=true:=by rw [List.all_eq_true];intro e he;obtain ⟨n,_,rfl⟩:=List.mem_map.1 he;rfl
 have hs:setOb (dh H r st ss l) r [] (.own 1 ((l.map I).take off++List.replicate len (I z0)++(l.map I).drop (off+len))) false=some (dh H r st ss (l.take off++List.replicate len z0++l.drop (off+len))):=by
  simp only [setOb,Oo hr,upd];congr 1;unfold dh;rw [List.set_set];simp [List.map_take,List.map_drop]
 simp only [wpI,ax,hx,hn];rw [if_pos ⟨trivial,by simpa using hl,hp,hz⟩,hs];rfl
theorem Yp {B r st ss off len:Nat}{p:Path}{h:List Ob}(hr:r<B):treeB B h (.sl r st p ss off len) = .sl r st p ss off len:=by
 simp only [treeB,hr,if_true]
theorem ZL {fr:Bool}{roots:List Nat}{b s:Nat}{σ:St}{k:AV→St→Prop}:callT G AR [.lst []] fr roots b [s] σ k=k .emp σ :=
 callT_of (n:=30) (h:=σ.h) H9 rfl rfl
theorem Ai6 {l:List Int}:(l.map I).all (fun e:AV=>e.cells.all AV.plain)=true:=by
 rw [List.all_eq_true];intro x hx;obtain ⟨n,_,rfl⟩:=List.mem_map.1 hx;rfl
theorem Ad9 (l:List Int)(h0:l≠[])(hl:l.length≤1048576):FnO G AR [.lst (l.map I)] 1 (l.map I):=by
 cases l with
 | nil=>exact absurd rfl h0
 | cons x l =>
   refine FnQ.own1 (FnQ.mk' H9 rfl rfl ?_) Ai6;simp only [go_sem,↓reduceIte,↓Aa,HZ];exact ⟨fun h=>by simp at h,fun _=>⟨⟨by simp at hl;omega,rfl⟩,1,1,[],0,rfl,rfl⟩⟩
theorem Aex {l:List Int}:(l.map I).map frz=l.map I:=by rw [List.map_map];rfl
open Classical in
theorem AeQ (x y:Stt)(hx:x.A.length≤1048576)(hy:y.A.length≤1048576):FnT G Fz [eSt x,eSt y] (Bo (decide (¬ ∀v∈x.A,v∈y.A))):=by
 refine FnP.mk' XX rfl rfl ?_;simp only [go_sem,↓reduceIte,↓Aa,QL,eSt];refine Ad (fun (i:Nat) σ=>i≤x.A.length∧(∀j<i,x.A[j]!∈y.A)∧σ=⟨aT .undef 20 [(3,.ptr 1 1 [] 0 0 0),(8,.lst (x.A.map I)),(9,I x.A.length),(10,I i)],[⟨1,0,.own 2 [.agg [.lst (x.A.map I),.lst (x.X.map I)]]⟩,⟨1,0,.own 2 [.agg [.lst (y.A.map I),.lst (y.X.map I)]]⟩],[]⟩) (fun i=>x.A.length-i) ?_ 0 ?_
 ·rintro i σ ⟨hi,hall,rfl⟩ N Q hQ hN;by_cases hlt:i<x.A.length
  ·simp only [go_sem,↓reduceIte,↓Aa,Ab hlt (by omega),Int.ofNat_lt,hlt,AjD hy];refine ⟨fun hm=>?_,fun hm=>?_⟩
   ·subst hQ;simp only [go_sem,↓reduceIte,↓Aa];rw [decide_eq_true (show ¬ ∀v∈x.A,v∈y.A from fun h=>hm (h _ (AJ hlt)))]
   ·refine hN (i+1) _ (by omega) ⟨by omega,Ae hall hm,?_⟩;simp only [go_sem,↓reduceIte,↓Aa]
  ·subst hQ;simp only [go_sem,↓reduceIte,↓Aa,Int.ofNat_lt,hlt];rw [decide_eq_false];intro h;refine h (fun v hv=>?_);obtain ⟨j,hj,e⟩:=getAt hv;rw [←e];exact hall j (by omega)
 ·exact ⟨by omega,by simp,by simp only [go_sem,↓reduceIte,↓Aa]⟩
open Classical in
theorem Aha {x y:Stt}(hx:x.A.length≤1048576)(hy:y.A.length≤1048576){fr:Bool}{roots:List Nat}{b:Nat}{ss:List Nat}{σ:St}{k:AV→St→Prop} :
 callT G Fz [.agg [.lst (x.A.map I),.lst (x.X.map I)],.agg [.lst (y.A.map I),.lst (y.X.map I)]] fr roots b ss σ k=k (Bo (decide (¬ ∀v∈x.A,v∈y.A))) σ:=(AeQ x y hx hy).rule
theorem Af7 {m q:Nat}(s0:Spc)(hs0:SpcK m s0)(t:Spc)(ht:SpcK q t)(he0:s0.acts.length=t.acts.length):∃d:Int,FnT G DV [eSp s0,eSp t] (I d)∧(d<0↔Ref (trimA s0).1 t):=by
 suffices hh:FnP G DV [eSp s0,eSp t] (fun rs h=>∃d:Int,packV (treeBL 0 h rs)=I d∧(d<0↔Ref (trimA s0).1 t)∧rs.all AV.flats=true) by
  obtain ⟨F,n,rs,σ1,e1,e2,e3,e4,e5,e6,d,h3,h4,h5⟩:=hh;exact ⟨d,⟨F,n,rs,σ1,e1,e2,e3,e4,e5,e6,h3,h5⟩,h4⟩
 have hb0:=hs0.b hs0.sz;have htrim:∀ {roots:List Nat}{b:Nat}{ss:List Nat}{σ:St}{k:AV→St→Prop},callT G C5 [.agg [.lst (s0.acts.map .str),.lst (s0.S.map eSt)]] true roots b ss σ k=k (.tup [eSp (trimA s0).1,.lst ((trimA s0).2.map eN)]) σ:=AdQ hb0 hs0.s1 (Ax hs0.acts);obtain ⟨hs,hsa⟩:=YC hs0;have he:(trimA s0).1.acts.length=t.acts.length:=by rw [hsa];exact he0
 generalize (trimA s0).1=s at *;generalize (trimA s0).2=tl at *;refine FnP.mk' XK rfl rfl ?_;have hS:=hs.ok.s2;have hT:=ht.s2;have hSs:=hs.ok.s1;have hTs:=ht.s1;have hz:=hs.ok.sz;have htz:=ht.sz;simp only [go_sem,↓reduceIte,↓Aa,PK,eSp,htrim];refine ⟨by omega,?_⟩;refine Ad (fun (i:Nat) σ=>i≤s.S.length∧∃z2 a3 c3,σ=⟨aT .undef 120 [(2,.ptr 0 1 [] 0 0 0),(3,.ptr 1 1 [] 0 0 0),(5,.sl 2 1 [] 0 0 s.S.length),(25,I s.S.length),(26,I i)],
  [⟨1,0,.own 2 [.agg [.lst (s.acts.map .str),.lst (s.S.map eSt)]]⟩,⟨1,0,.own 2 [.agg [.lst (t.acts.map .str),.lst (t.S.map eSt)]]⟩,⟨1,z2,.own 1 ((List.range s.S.length).map (P1 t.S.length i))⟩,⟨a3,c3,.gone⟩,⟨0,0,.gone⟩,⟨0,0,.gone⟩,⟨0,0,.gone⟩,⟨0,0,.gone⟩,⟨0,0,.gone⟩],[]⟩) (fun i=>s.S.length-i) ?_ 0 ?_
 ·rintro i σ ⟨hi,z2,a3,c3,rfl⟩ N Q hQ hN;by_cases hlt:i<s.S.length
  ·simp only [go_sem,↓reduceIte,↓Aa,Ab hlt (by omega),Int.ofNat_lt,hlt,List.length_range,Qz hlt,AaO,Ab7];refine ⟨by omega,hN (i+1) _ (by omega) ⟨by omega,?_⟩⟩;simp only [go_sem,↓reduceIte,↓Aa];repeat apply Exists.intro
   rfl
  ·have hil:i=s.S.length:=by omega
   subst hil hQ;have h0:0<s.S.length:=hSs;have h1:0<t.S.length:=hTs;simp only [go_sem,↓reduceIte,↓Aa,Int.ofNat_lt,hlt,Acf];have hM0:MSz (List.replicate s.S.length (List.replicate t.S.length false)) s.S.length t.S.length:=⟨by simp,fun x hx=>by rw [getElem!_pos _ x (by simpa using hx)];simp⟩;have hM1:∀x y,¬Met (List.replicate s.S.length (List.replicate t.S.length false)) x y:=by
    intro x y h;unfold Met at h;by_cases hx:x<s.S.length
    ·rw [getElem!_pos _ x (by simpa using hx)] at h;simp only [List.getElem_replicate,List.getElem!_eq_getElem?_getD,List.getElem?_replicate] at h;split at h<;>simp at h
    ·have e1:(List.replicate s.S.length (List.replicate t.S.length false))[x]! = []:=by
      rw [List.getElem!_eq_getElem?_getD,List.getElem?_eq_none (by simpa using hx)];rfl
     rw [e1] at h;simp at h
   generalize List.replicate s.S.length (List.replicate t.S.length false)=M0 at *;have hRI:RI2 s t (YA M0 0 0) [(0,0)]:=by
    refine ⟨WN hM0 h0,(setM_get hM0 h0 h1).2 (.inl ⟨rfl,rfl⟩),fun x y hm'=>?_,fun p hp=>?_,fun x y hm'=>?_⟩
    ·rcases (setM_get hM0 h0 h1).1 hm' with ⟨rfl,rfl⟩|h
     ·exact (Rch2.closed s t).z
     ·exact absurd h (hM1 x y)
    ·rw [List.mem_singleton] at hp;subst hp;exact (setM_get hM0 h0 h1).2 (.inl ⟨rfl,rfl⟩)
    ·rcases (setM_get hM0 h0 h1).1 hm' with ⟨rfl,rfl⟩|h
     ·exact .inl (List.mem_singleton_self _)
     ·exact absurd h (hM1 x y)
   have g0:=hM0.l;have g1:=hM0.r 0 h0;have hμ0:=μM_le hRI.sz;have hμ02:s.S.length*t.S.length≤12000*12000:=Nat.mul_le_mul (by omega) (by omega);simp only [go_sem,↓reduceIte,↓Aa,Int.ofNat_lt,h0,h1,g0,g1,rowB,Kh,Ti];refine ⟨by omega,by omega,?_⟩;refine Ad (fun (g:List (List Bool)×List (Nat×Nat)) σ=>RI2 s t g.1 g.2∧g.2.length≤300000000∧∃d:Nat,d+(2*μM g.1+if g.2 = [] then 0 else 1)≤300000000∧∃z0 z2 o3 o4 a5 c5 a6 c6 a7 c7 a8 c8,Agn 7 σ=⟨aT .undef 120 [(7,.lst (g.2.map eN2)),(2,.ptr 0 1 [] 0 0 0),(3,.ptr 1 1 [] 0 0 0),(5,.sl 2 1 [] 0 0 s.S.length),(8,I d)],
    [⟨1,z0,.own 2 [.agg [.lst (s.acts.map .str),.lst (s.S.map eSt)]]⟩,⟨1,0,.own 2 [.agg [.lst (t.acts.map .str),.lst (t.S.map eSt)]]⟩,⟨1,z2,.own 1 (g.1.map rowB)⟩,o3,o4,⟨a5,c5,.gone⟩,⟨a6,c6,.gone⟩,⟨a7,c7,.gone⟩,⟨a8,c8,.gone⟩],[]⟩) (fun g=>2*μM g.1+if g.2 = [] then 0 else 1) ?_ (YA M0 0 0,[(0,0)]) ?_
   ·rintro ⟨M,W⟩ σ ⟨hI,hWl,d,hd,z0,z2,o3,o4,a5,c5,a6,c6,a7,c7,a8,c8,hσ⟩ N Q hQ hN;simp only at hI hσ hWl hd;have hMl:=hI.sz.l;by_cases hW:W = []
    ·subst hW;have hsat:=hI.fin;subst hQ;simp only [go_sem,↓reduceIte,↓Aa,hσ,hMl];exact ⟨-1,rfl,fun _=>hsat,fun _=>by omega⟩
    ·have hW0:0<W.length:=List.length_pos_iff.2 hW;have hWp:(0:Int)<(W.length:Int):=by omega
     have hμ:=μM_le hI.sz;simp only [go_sem,↓reduceIte,↓Aa,hσ,hWp];refine Ad (fun (g:Nat×List (List Bool)×List (Nat×Nat)) σ=>g.1≤W.length∧RI2 s t g.2.1 (W.drop g.1++g.2.2)∧μM g.2.1+g.2.2.length=μM M∧∃z2 o3 o4 a5 c5 a6 c6 a7 c7 a8 c8,σ=⟨aT .undef 120 [(2,.ptr 0 1 [] 0 0 0),(3,.ptr 1 1 [] 0 0 0),(5,.sl 2 1 [] 0 0 s.S.length),(8,I d),(9,Mo .nils 2 8 a8 (g.2.2.map eN2)),(48,.lst (W.map eN2)),(49,I W.length),(50,I g.1)],
      [⟨1,z0,.own 2 [.agg [.lst (s.acts.map .str),.lst (s.S.map eSt)]]⟩,⟨1,0,.own 2 [.agg [.lst (t.acts.map .str),.lst (t.S.map eSt)]]⟩,⟨1,z2,.own 1 (g.2.1.map rowB)⟩,o3,o4,⟨a5,c5,.gone⟩,⟨a6,c6,.gone⟩,⟨a7,c7,.gone⟩,⟨a8,c8,Pa 2 (g.2.2.map eN2)⟩],[]⟩) (fun g=>W.length-g.1) ?_ (0,M,[]) ?_
     ·rintro ⟨j,M1,W2⟩ σ ⟨hj,hI1,hcnt,z2,o3,o4,a5,c5,a6,c6,a7,c7,a8,c8,rfl⟩ N2 Q2 hQ2 hN2;simp only at hj hI1 hcnt;by_cases hlt:j<W.length
      ·have hcons:W.drop j=W[j]!::W.drop (j+1):=by rw [List.drop_eq_getElem_cons hlt,getElem!_pos W j hlt]
       rw [hcons,List.cons_append] at hI1;have hpl:=hI1.lt hs ht he (List.mem_cons_self ..);generalize hp:W[j]! = p at *;obtain ⟨x,y⟩:=p;simp only at hpl;have hpr:=hI1.r _ _ (hI1.w _ (List.mem_cons_self ..));simp only at hpr;have hxA:=(hz.x x hpl.1).1;have hyA:=(htz.x y hpl.2).1;simp only [go_sem,↓reduceIte,↓Aa,Int.ofNat_lt,hlt,hp,eN2,eN,Aha hxA hyA,Ab hlt (by omega),hpl.1,hpl.2,eSt];refine ⟨fun hg=>?_,fun hg=>?_⟩
       ·subst hQ2;simp only [go_sem,↓reduceIte,↓Aa];subst hQ;simp only [go_sem,↓reduceIte,↓Aa];exact ⟨d,rfl,fun h=>by omega,fun hr=>absurd (hr x y hpr) hg⟩
       ·have hg:subP s t x y:=Classical.not_not.1 hg;have hxX:=(hz.x x hpl.1).2;refine Ad (fun (g:Nat×List (List Bool)×List (Nat×Nat)) σ=>g.1≤s.S[x]!.X.length∧RI2 s t g.2.1 ((x,y)::(W.drop (j+1)++g.2.2))∧(∀a<g.1,0≤s.S[x]!.X[a]!→Met g.2.1 s.S[x]!.X[a]!.toNat t.S[y]!.X[a]!.toNat)∧μM g.2.1+g.2.2.length=μM M∧∃z2 o3 o4 a6 c6 a7 c7 a8 c8,σ=⟨aT .undef 120 [(2,.ptr 0 1 [] 0 0 0),(3,.ptr 1 1 [] 0 0 0),(5,.sl 2 1 [] 0 0 s.S.length),(8,I d),(9,Mo .nils 2 8 a8 (g.2.2.map eN2)),(11,.ptr 5 (a5+1) [] 0 0 0),(48,.lst (W.map eN2)),(49,I W.length),(50,I j),(74,.lst (s.S[x]!.X.map I)),(75,I s.S[x]!.X.length),(76,I g.1)],
         [⟨1,z0,.own 2 [.agg [.lst (s.acts.map .str),.lst (s.S.map eSt)]]⟩,⟨1,0,.own 2 [.agg [.lst (t.acts.map .str),.lst (t.S.map eSt)]]⟩,⟨1,z2,.own 1 (g.2.1.map rowB)⟩,o3,o4,⟨a5+1,0,.own 2 [.agg [I x,I y]]⟩,⟨a6,c6,.gone⟩,⟨a7,c7,.gone⟩,⟨a8,c8,Pa 2 (g.2.2.map eN2)⟩],[]⟩) (fun g=>s.S[x]!.X.length-g.1) ?_ (0,M1,W2) ?_
        ·rintro ⟨k,M2,W3⟩ σ ⟨hk,hI2,hdn,hcnt2,z2,o3,o4,a6,c6,a7,c7,a8,c8,rfl⟩ N3 Q3 hQ3 hN3;simp only at hk hI2 hdn hcnt2;have htk:∀i<k+1,i=k∨i<k:=fun i hi=>by omega
         by_cases hlt2:k<s.S[x]!.X.length
         ·by_cases hx0:0≤s.S[x]!.X[k]!
          ·obtain ⟨g1,g2,g3,g4⟩:=Ab3 hs ht he hpl.1 hpl.2 hg hlt2 hx0;have hsr:=(Rch2.closed s t).n x y hpr hg k hlt2 hx0;obtain ⟨tx,htx⟩:∃n:Nat,s.S[x]!.X[k]! = n:=⟨s.S[x]!.X[k]!.toNat,by omega⟩;obtain ⟨ty,hty⟩:∃n:Nat,t.S[y]!.X[k]! = n:=⟨t.S[y]!.X[k]!.toNat,by omega⟩;rw [htx,hty,Int.toNat_natCast,Int.toNat_natCast] at hsr;have htx2:tx<s.S.length:=by omega
           have hty2:ty<t.S.length:=by omega
           have htM:tx<M2.length:=by rw [hI2.sz.l];exact htx2
           have htR:ty<M2[tx]!.length:=by rw [hI2.sz.r tx htx2];exact hty2
           simp only [go_sem,↓reduceIte,↓Aa,Int.ofNat_lt,hlt2,eSt,htx,hty,hpl.2,g2,htx2,hty2,htM,htR,rowB,Ab hlt2 (by omega),hI2.sz.l];have hμ3:=μM_le hI2.sz;refine ⟨fun hbad=>absurd hbad (by omega),fun _=>⟨fun hf=>⟨by omega,?_⟩,fun hf=>?_⟩⟩
           ·have hg2:=fun {x' y'}=>@setM_get M2 _ _ tx ty hI2.sz htx2 hty2 x' y';have hms:=μM_set hI2.sz htx2 hty2 hf;have hmt:=hI2.meet htx2 hty2 hsr;rw [List.cons_append,List.append_assoc] at hmt;refine hN3 (k+1,YA M2 tx ty,W3++[(tx,ty)]) _ (by simp only;omega) ⟨by simp only;omega,hmt,fun i hi hi0=>?_,by simp only [List.length_append,List.length_singleton];omega,?_⟩
            ·rcases htk i hi with rfl|hi
             ·rw [htx,hty,Int.toNat_natCast,Int.toNat_natCast];exact hg2.2 (.inl ⟨rfl,rfl⟩)
             ·exact hg2.2 (.inr (hdn i hi hi0))
            ·simp only [go_sem,↓reduceIte,↓Aa,YA,List.map_append,eN2,eN,Kh,Ti];repeat apply Exists.intro
             rfl
           ·refine hN3 (k+1,M2,W3) _ (by simp only;omega) ⟨by simp only;omega,hI2,fun i hi hi0=>?_,hcnt2,?_⟩
            ·rcases htk i hi with rfl|hi
             ·rw [htx,hty,Int.toNat_natCast,Int.toNat_natCast];exact hf
             ·exact hdn i hi hi0
            ·simp only [go_sem,↓reduceIte,↓Aa];repeat apply Exists.intro
             rfl
          ·have hneg:s.S[x]!.X[k]! < 0:=by omega
           simp only [go_sem,↓reduceIte,↓Aa,Int.ofNat_lt,hlt2,hneg,Ab hlt2 (by omega)];refine hN3 (k+1,M2,W3) _ (by simp only;omega) ⟨by simp only;omega,hI2,fun i hi hi0=>?_,hcnt2,?_⟩
           ·rcases htk i hi with rfl|hi
            ·omega
            ·exact hdn i hi hi0
           ·simp only [go_sem,↓reduceIte,↓Aa];repeat apply Exists.intro
            rfl
         ·have hkl:k=s.S[x]!.X.length:=by omega
          subst hQ3;simp only [go_sem,↓reduceIte,↓Aa,Int.ofNat_lt,hlt2,Ab hlt (show W.length≤1000000000 by omega)];refine hN2 (j+1,M2,W3) _ (by simp only;omega) ⟨by simp only;omega,hI2.done hg (fun i hi=>hdn i (by rw [hkl];exact hi)),hcnt2,?_⟩;simp only [go_sem,↓reduceIte,↓Aa];repeat apply Exists.intro
          rfl
        ·refine ⟨by simp,hI1,fun i hi=>absurd hi (by simp),hcnt,?_⟩;simp only [go_sem,↓reduceIte,↓Aa];repeat apply Exists.intro
         rfl
      ·have hjl:j=W.length:=by omega
       subst hQ2;have hdw:IntKind.i64.wrap ((d:Int)+1)=((d+1:Nat):Int):=by rw [L7]<;>omega
       simp only [go_sem,↓reduceIte,↓Aa,Int.ofNat_lt,hlt,hdw];subst hjl;rw [List.drop_length,List.nil_append] at hI1;have hms:2*μM M1+(if W2 = [] then 0 else 1)+1≤2*μM M+1:=by
        by_cases hW2:W2 = []
        ·subst hW2;simp at hcnt ⊢;omega
        ·have:=List.length_pos_iff.2 hW2;simp only [hW2,if_false];omega
       simp only [hW,if_false] at hd;refine hN (M1,W2) _ (by simp only [hW,if_false];omega) ⟨hI1,by simp only;omega,d+1,by simp only;omega,?_⟩;simp only [go_sem,↓reduceIte,↓Aa,AcR];repeat apply Exists.intro
       rfl
     ·refine ⟨by simp,by simpa using hI,by simp,?_⟩;simp only [go_sem,↓reduceIte,↓Aa];repeat apply Exists.intro
      rfl
   ·refine ⟨hRI,by simp,0,?_,?_⟩
    ·simp only [List.cons_ne_nil,if_false];omega
    simp only [go_sem,↓reduceIte,↓Aa,YA,eN2,eN];repeat apply Exists.intro
    rfl
 ·refine ⟨by omega,?_⟩;have e1:(List.range s.S.length).map (P1 t.S.length 0)=List.replicate s.S.length AV.nils:=by
   apply List.ext_getElem (by simp);intro j h1 h2;simp [P1]
  simp only [go_sem,↓reduceIte,↓Aa,e1];repeat apply Exists.intro
  rfl
open Classical in
theorem refR_ok {m q:Nat}(s:Spc)(hs:SpcK m s)(t:Spc)(ht:SpcK q t)(he:s.acts.length=t.acts.length):FnT G Cu [eSp s,eSp t] (Bo (decide (Ref (trimA s).1 t))):=by
 obtain ⟨d,h,hd⟩:=Af7 s hs t ht he;have hcall:∀ {fr:Bool}{roots:List Nat}{b:Nat}{ss:List Nat}{σ:St}{k:AV→St→Prop},callT G DV [.agg [.lst (s.acts.map .str),.lst (s.S.map eSt)],.agg [.lst (t.acts.map .str),.lst (t.S.map eSt)]] fr roots b ss σ k=k (I d) σ:=h.rule;refine FnP.mk' Tu rfl rfl ?_;simp only [go_sem,↓reduceIte,↓Aa,MY,eSp,hcall];congr 1;exact decide_eq_decide.2 hd
open Classical in
theorem AgR {m q:Nat}{s:Spc}(hs:SpcK m s){t:Spc}(ht:SpcK q t)(he:s.acts.length=t.acts.length){fr:Bool}{roots:List Nat}{b:Nat}{ss:List Nat}{σ:St}{k:AV→St→Prop} :
 callT G Cu [.agg [.lst (s.acts.map .str),.lst (s.S.map eSt)],.agg [.lst (t.acts.map .str),.lst (t.S.map eSt)]] fr roots b ss σ k=k (Bo (decide (Ref (trimA s).1 t))) σ:=(refR_ok s hs t ht he).rule
open Classical in
theorem Ab1 {m q:Nat}(s:Spc)(hs:SpcK m s)(t:Spc)(ht:SpcK q t)(he:s.acts.length=t.acts.length):FnT G DW [eSp s,eSp t] (Bo (decide (Ref (trimA s).1 t∧Ref (trimA t).1 s))):=by
 refine FnP.mk' WV rfl rfl ?_;simp only [go_sem,↓reduceIte,↓Aa,QH,eSp,AgR hs ht he,AgR ht hs he.symm];by_cases h1:Ref (trimA s).1 t<;>by_cases h2:Ref (trimA t).1 s<;>simp [h1,h2]
open Classical in
theorem AeU {m q:Nat}{s:Spc}(hs:SpcK m s){t:Spc}(ht:SpcK q t)(he:s.acts.length=t.acts.length){fr:Bool}{roots:List Nat}{b:Nat}{ss:List Nat}{σ:St}{k:AV→St→Prop} :
 callT G DW [.agg [.lst (s.acts.map .str),.lst (s.S.map eSt)],.agg [.lst (t.acts.map .str),.lst (t.S.map eSt)]] fr roots b ss σ k=k (Bo (decide (Ref (trimA s).1 t∧Ref (trimA t).1 s))) σ:=(Ab1 s hs t ht he).rule
open Classical in
theorem Ub {s:Spc}{k:Nat}:inB (Cp s) k↔Hol s k:=by
 unfold inB;by_cases hk:k<s.S.length
 ·exact De hk
 ·have e:(Cp s)[k]! = false:=by
   rw [List.getElem!_eq_getElem?_getD,List.getElem?_eq_none (by simp [Cp];omega)];rfl
  rw [e];exact ⟨fun h=>(by cases h),fun h=>absurd h.1 hk⟩
theorem AhW {l:List Nat}{k:Nat}(h:k∈l):l[l.idxOf k]! = k:=by
 have hl:=List.idxOf_lt_length_of_mem h;rw [getElem!_pos l _ hl,List.getElem_idxOf]
theorem JD {m:Nat}{s:Spc}(h:SpcK m s)(h0:(Cp s)[0]! = false){i:Nat}(hi:i<(ordOf s).length) :
 (Am s).S[i]!.A=keptL s (ordOf s)[i]!∧(ordOf s)[i]! < s.S.length∧(Cp s)[(ordOf s)[i]!]! = false:=by
 have hs:(ordOf s)[i]! < s.S.length∧(Cp s)[(ordOf s)[i]!]! = false:=Qa h h0 s.S.length _ (AJ hi);refine ⟨?_,hs⟩;rw [Lq hi];simp only [JI,KJ,Ln];rw [if_neg (by rw [hs.2];simp)]
open Classical in
theorem Lx {s:Spc}{x:Nat}{v:Int}:v∈keptL s x↔v∈s.S[x]!.A∧¬Dies s.S[x]! (Hol s) v:=by
 have hd:Dies s.S[x]! (inB (Cp s)) v↔Dies s.S[x]! (Hol s) v:=⟨fun h=>h.mono fun k hk=>Ub.1 hk,fun h=>h.mono fun k hk=>Ub.2 hk⟩;unfold keptL;rw [List.mem_filter,Bool.not_eq_true',decide_eq_false_iff_not,hd]
theorem Qr {m:Nat}{s:Spc}(h:SpcK m s)(h0:(Cp s)[0]! = false){i:Nat}(hi:i<(ordOf s).length){v:Int}(hv:v∈(Am s).S[i]!.A){a:Nat}(ha:hasA v a=true) :
 a<s.acts.length∧(Am s).S[i]!.X[a]!.toNat<(ordOf s).length∧(ordOf s)[(Am s).S[i]!.X[a]!.toNat]! = s.S[(ordOf s)[i]!]!.X[a]!.toNat:=by
 have hb:=h.b h.sz;have h1:0<s.S.length:=h.s1;obtain ⟨e,hx,hh⟩:=JD h h0 hi;rw [e] at hv;have hcl:=LB hb h1 _ (AJ hi);rw [Ez hx] at hcl;have hva:=(AdK hv).1;obtain ⟨j,hj,ej⟩:=getAt hva;have hst:=h.st _ hx;have hlt:a<s.acts.length:=AO (n:=v.toNat) (by have:=hst.a j hj;rw [ej] at this;omega) ha;have hsol:Ln s (ordOf s)[i]! = keptL s (ordOf s)[i]!:=by unfold Ln;rw [if_neg (by rw [hh];simp)]
 have hu:(usedN (Ln s (ordOf s)[i]!)).testBit a=true:=DI.2 ⟨v,by rw [hsol];exact hv,ha⟩;have hX0:0≤s.S[(ordOf s)[i]!]!.X[a]!:=UW h hx (by rw [hst.len];exact hlt) hu;have hm:s.S[(ordOf s)[i]!]!.X[a]!.toNat∈ordOf s:=by
  refine hcl _ ?_ hX0;have:(KJ s (ordOf s)[i]!).X[a]!∈(KJ s (ordOf s)[i]!).X:=AJ (by simp only [KJ,C0];rw [hst.len];exact hlt);rw [MB (by rw [hst.len];exact hlt),if_pos hu] at this;exact this
 rw [Lq hi,Pk (by rw [hst.len];exact hlt),if_pos hu];have hp:placeX (ordOf s) s.S[(ordOf s)[i]!]!.X[a]! = ((ordOf s).idxOf s.S[(ordOf s)[i]!]!.X[a]!.toNat:Int):=by unfold placeX;rw [if_pos hX0]
 rw [hp,Int.toNat_natCast];have hl:=List.idxOf_lt_length_of_mem hm;exact ⟨hlt,hl,AhW hm⟩
theorem AbI {N n:Nat}{o:List Nat}(ho:o.Nodup)(hn:o.length=n):∀(ks:List Int) (p p':List Bool×List Nat),VI N p→(∀k∈ks,k<(N:Int))→VI n p'→p'.2=List.range p.2.length→(ks.foldl visit p).2 <+: o →
 ((ks.map (placeX o)).foldl visit p').2=List.range (ks.foldl visit p).2.length∧VI n ((ks.map (placeX o)).foldl visit p'):=by
 intro ks;induction ks with
 | nil=>intro p p' _ _ hv' he _;exact ⟨he,hv'⟩
 | cons k ks ih =>
   intro p p' hp hk hv' he hpre;simp only [List.map_cons,List.foldl_cons] at hpre ⊢;have hkN:=hk k (List.mem_cons_self ..);have hpv:=hp.visit hkN;have hpre1:(visit p k).2 <+: o:=(FC ks).trans hpre;have hpre0:p.2 <+: o:=V0.trans hpre1;have hplen:p.2.length≤n:=by rw [←hn];exact hpre0.length_le
   by_cases h0:0≤k
   ·have hpx:placeX o k=(o.idxOf k.toNat:Int):=by unfold placeX;rw [if_pos h0]
    have hmem:k.toNat∈(visit p k).2:=by
     unfold visit;by_cases hf:p.1[k.toNat]! = false
     ·rw [if_pos ⟨h0,hf⟩];simp
     ·rw [if_neg (fun g=>hf g.2),hp.m];exact ⟨by omega,by simpa using hf⟩
    have hmo:k.toNat∈o:=hpre1.subset hmem;have hio:=List.idxOf_lt_length_of_mem hmo;have hvk:placeX o k<(n:Int):=by rw [hpx];omega
    refine ih _ _ hpv (fun j hj=>hk j (List.mem_cons_of_mem _ hj)) (hv'.visit hvk) ?_ hpre;by_cases hf:p.1[k.toNat]! = false
    ·have e1:(visit p k).2=p.2++[k.toNat]:=by unfold visit;rw [if_pos ⟨h0,hf⟩]
     have hidx:o.idxOf k.toNat=p.2.length:=by
      rw [e1] at hpre1;obtain ⟨r,hr⟩:=hpre1;have hlt:p.2.length<o.length:=by rw [←hr];simp
      have he2:o[p.2.length]=k.toNat:=by simp [←hr]
      have:=ho.idxOf_getElem p.2.length hlt;rw [he2] at this;exact this
     have hf':p'.1[p.2.length]! = false:=by
      cases hb:p'.1[p.2.length]! with
      | false=>rfl
      | true =>
        have:p.2.length∈p'.2:=(hv'.m _).2 ⟨by rw [hidx] at hio;omega,hb⟩;rw [he] at this;simp at this
     have e2:(visit p' (placeX o k)).2=p'.2++[p.2.length]:=by
      unfold visit;rw [hpx,hidx,Int.toNat_natCast,if_pos ⟨by omega,hf'⟩]
     rw [e2,e1,he,List.length_append,List.length_singleton,List.range_succ]
    ·have e1:visit p k=p:=by unfold visit;rw [if_neg (fun g=>hf g.2)]
     have hin:k.toNat∈p.2:=(hp.m _).2 ⟨by omega,by simpa using hf⟩;have hidx:o.idxOf k.toNat<p.2.length:=by
      obtain ⟨r,hr⟩:=hpre0;rw [←hr,List.idxOf_append,if_pos hin];exact List.idxOf_lt_length_of_mem hin
     have hin':o.idxOf k.toNat∈p'.2:=by rw [he];exact List.mem_range.2 hidx
     have hb:=((hv'.m _).1 hin').2;have e2:visit p' (placeX o k)=p':=by
      unfold visit;rw [hpx,Int.toNat_natCast,hb];rw [if_neg (fun g=>by cases g.2)]
     rw [e2,e1,he]
   ·have e1:visit p k=p:=by unfold visit;rw [if_neg (fun g=>h0 g.1)]
    have hpx:placeX o k=k:=by unfold placeX;rw [if_neg h0]
    have e2:visit p' (placeX o k)=p':=by rw [hpx];unfold visit;rw [if_neg (fun g=>h0 g.1)]
    rw [e1] at hpre ⊢;rw [e2];exact ih p p' hp (fun j hj=>hk j (List.mem_cons_of_mem _ hj)) hv' he hpre
theorem X9 {n:Nat}{nx:Nat→List Int}{i:Nat}(hi:i≤n):(bfsAt n nx i).2 <+: orderL n nx:=by
 have:=@YT n nx i (n-i);rw [show i+(n-i)=n by omega] at this;exact this
theorem Ajc {N n:Nat}{nx:Nat→List Int}(hN:0<N)(hx:∀x<N,∀k∈nx x,k<(N:Int))(hn:(orderL N nx).length=n) :
 orderL n (fun i=>(nx (orderL N nx)[i]!).map (placeX (orderL N nx)))=List.range n:=by
 have hV:=fun i=>N6 hN hx i;have hnd:(orderL N nx).Nodup:=(hV N).nd;have hnN:n≤N:=by rw [←hn];exact (hV N).len
 have hn0:0<n:=by rw [←hn];exact (hV N).pos
 generalize ho:orderL N nx=o at *;have key:∀i,i≤N→(bfsAt n (fun i=>(nx o[i]!).map (placeX o)) i).2=List.range (bfsAt N nx i).2.length∧VI n (bfsAt n (fun i=>(nx o[i]!).map (placeX o)) i):=by
  intro i;induction i with
  | zero =>
    intro _;refine ⟨by simp [bfsAt,List.range_succ],?_⟩;refine ⟨by simp [bfsAt],by simp [bfsAt],fun x=>?_,rfl⟩;simp only [bfsAt,List.mem_singleton];rw [LN (by simpa using hn0)];by_cases e:0=x
    ·subst e;simp [hn0]
    ·rw [if_neg e];constructor
     ·intro h;exact absurd h.symm e
     ·rintro ⟨h1,h2⟩;rw [getElem!_pos _ x (by simpa using h1)] at h2;simp at h2
  | succ i ih =>
    intro hi;obtain ⟨e,hv⟩:=ih (by omega);have hpre:(bfsAt N nx (i+1)).2 <+: o:=by rw [←ho];exact X9 hi
    have hprei:(bfsAt N nx i).2 <+: o:=by rw [←ho];exact X9 (by omega)
    have hll:(bfsAt n (fun i=>(nx o[i]!).map (placeX o)) i).2.length=(bfsAt N nx i).2.length:=by rw [e,List.length_range]
    simp only [bfsAt] at hpre ⊢;by_cases hl:i<(bfsAt N nx i).2.length
    ·rw [if_pos (by rw [hll];exact hl)];rw [if_pos hl] at hpre ⊢;have e1:(bfsAt n (fun i=>(nx o[i]!).map (placeX o)) i).2[i]! = i:=by rw [e,getElem!_pos _ i (by simpa using hl)];simp
     have e2:o[i]! = (bfsAt N nx i).2[i]!:=EN hprei hl;rw [e1,e2];exact AbI hnd hn _ _ _ (hV i) (hx _ ((hV i).get hl)) hv e hpre
    ·rw [if_neg (by rw [hll];exact hl),if_neg hl];exact ⟨e,hv⟩
 have hstay:(bfsAt N nx n).2.length=n:=by
  have hpn:(bfsAt N nx n).2 <+: o:=by rw [←ho];exact X9 hnN
  have h1:(bfsAt N nx n).2.length≤n:=by have:=hpn.length_le;omega
  have:=Yq h1 (N-n);rw [show n+(N-n)=N by omega] at this;have e3:(bfsAt N nx N).2=o:=ho;rw [←this,e3];exact hn
 have:=(key n hnN).1;rw [hstay] at this;exact this
open Classical in
theorem QP {m:Nat}{s:Spc}(h:SpcK m s):(trimA (trimA s).1).1=(trimA s).1:=by
 have hb:=h.b h.sz;have h1:0<s.S.length:=h.s1;cases h0:(Cp s)[0]! with
 | true =>
   have e:trimA s=(B5 s.acts,[]):=by unfold trimA;rw [if_pos h0]
   rw [e];have h2:(Cp (B5 s.acts))[0]! = true:=(De (by simp [B5])).2 ⟨by simp [B5],fun P hP=>hP 0 (by simp [B5]) (fun i hi=>by simp [B5] at hi)⟩;unfold trimA;rw [if_pos h2];rfl
 | false =>
   have e:trimA s=(Am s,ordOf s):=by unfold trimA;rw [if_neg (by rw [h0];simp)]
   rw [e];have hlen:(Am s).S.length=(ordOf s).length:=by simp [Am]
   have hpos:=KR hb h1;have hno:∀k,¬Hol (Am s) k:=by
    intro k hk;refine hk.2 (fun _=>False) (fun x hx hd=>?_);rw [hlen] at hx;obtain ⟨eA,hxl,hh⟩:=JD h h0 hx;have hne:=W7 h hxl hh;rw [←eA] at hne;have h00:0<(Am s).S[x]!.A.length:=List.length_pos_iff.2 hne;obtain ⟨a,_,_,_,hF⟩:=hd 0 h00;exact hF
   have hT0:(Cp (Am s))[0]! = false:=by
    cases hb2:(Cp (Am s))[0]! with
    | false=>rfl
    | true=>exact absurd ((De (by rw [hlen];exact hpos)).1 hb2) (hno 0)
   have hk:∀i,keptL (Am s) i=(Am s).S[i]!.A:=fun i=>by
    unfold keptL;refine List.filter_eq_self.2 (fun v _=>?_);rw [Bool.not_eq_true',decide_eq_false_iff_not];rintro ⟨a,_,_,_,hd⟩;exact hno _ (Ub.1 hd)
   have hsA:∀i<(ordOf s).length,Ln (Am s) i=(Am s).S[i]!.A:=fun i hi=>by
    have:(Cp (Am s))[i]! = false:=by
     cases hb2:(Cp (Am s))[i]! with
     | false=>rfl
     | true=>exact absurd ((De (by rw [hlen];exact hi)).1 hb2) (hno i)
    unfold Ln;rw [if_neg (by rw [this];simp)];exact hk i
   have hXeq:∀i<(ordOf s).length,onlyX (Am s).S[i]! (usedN (Am s).S[i]!.A) (Am s).S[i]!.X.length=(Am s).S[i]!.X:=fun i hi=>by
    apply List.ext_getElem (by rw [C0]);intro a ha1 ha2;rw [←getElem!_pos _ a ha1,←getElem!_pos _ a ha2,Mt ha2];split
    ·rfl
    ·rename_i hu;rw [Lq hi] at hu ha2 ⊢;have hA:(JI s (ordOf s)[i]!).A=Ln s (ordOf s)[i]!:=rfl;rw [Pt] at ha2;rw [Pk ha2,if_neg (by rw [←hA];exact hu)];simp [placeX]
   have hsS:∀i<(ordOf s).length,KJ (Am s) i=(Am s).S[i]!:=fun i hi=>by
    unfold KJ;rw [hsA i hi,hXeq i hi]
   have hord:ordOf (Am s)=List.range (ordOf s).length:=by
    unfold ordOf;rw [hlen];have hbase:=Ajc (nx:=fun x=>(solidOf s).S[x]!.X) h1 (N8 hb) (n:=(ordOf s).length) rfl;have hbase2:orderL (ordOf s).length (fun i=>((solidOf s).S[(ordOf s)[i]!]!.X).map (placeX (ordOf s)))=List.range (ordOf s).length:=hbase;have hcong:∀(n:Nat) (f g:Nat→List Int),(∀i<n,f i=g i)→(∀x<n,∀k∈g x,k<(n:Int))→0<n→orderL n f=orderL n g:=by
     intro n f g hfg hg hn;have:∀i,bfsAt n f i=bfsAt n g i:=by
      intro i;induction i with
      | zero=>rfl
      | succ i ih =>
        simp only [bfsAt,ih];split
        ·rename_i hl;rw [hfg _ ((N6 hn hg i).get hl)]
        ·rfl
     unfold orderL;rw [this]
    have hTb:=(NP h).ok.b (NP h).ok.sz;have hx2:=N8 hTb;rw [hlen] at hx2;have heq:∀i<(ordOf s).length,(solidOf (Am s)).S[i]!.X=((solidOf s).S[(ordOf s)[i]!]!.X).map (placeX (ordOf s)):=fun i hi=>by
     rw [Ez (by rw [hlen];exact hi),hsS i hi,Lq hi,Ez (Adc hb h1 (AJ hi))];rfl
    rw [hcong _ _ (fun i=>((solidOf s).S[(ordOf s)[i]!]!.X).map (placeX (ordOf s))) heq (fun x hx k hk=>by rw [←heq x hx] at hk;exact hx2 x hx k hk) hpos];exact hbase2
   have hTt:trimA (Am s)=(Am (Am s),ordOf (Am s)):=by unfold trimA;rw [if_neg (by rw [hT0];simp)]
   rw [hTt];simp only;have hfin:∀i<(ordOf s).length,JI (Am s) i=(Am s).S[i]!:=fun i hi=>by
    have hst:=(NP h).ok.st i (by rw [hlen];exact hi);unfold JI;rw [hsS i hi,hord];have:(Am s).S[i]!.X.map (placeX (List.range (ordOf s).length))=(Am s).S[i]!.X:=by
     conv=>rhs;rw [←List.map_id (Am s).S[i]!.X]
     refine List.map_congr_left fun k hk=>?_;obtain ⟨a,ha,ea⟩:=getAt hk;have hb3:=hst.x a (by rw [←hst.len];exact ha);rw [ea,hlen] at hb3;unfold placeX;split
     ·rename_i h0';have hlt:k.toNat<(List.range (ordOf s).length).length:=by rw [List.length_range];omega
      have:=List.nodup_range.idxOf_getElem k.toNat hlt;rw [List.getElem_range] at this;rw [this,id];omega
     ·rfl
    rw [this]
   have:(ordOf (Am s)).map (JI (Am s))=(Am s).S:=by
    rw [hord];apply List.ext_getElem (by simp [hlen]);intro i hi1 hi2;rw [List.getElem_map,List.getElem_range,hfin i (by simpa using hi1),getElem!_pos _ i hi2]
   show Spc.mk (Am s).acts ((ordOf (Am s)).map (JI (Am s)))=Am s;rw [this]
structure Bi (A B:Spc)(R:Nat→Nat→Prop):Prop where
 e:A.acts=B.acts
 z:R 0 0
 lt:∀x y,R x y→x<A.S.length∧y<B.S.length
 acc:∀x y,R x y→∀v,v∈A.S[x]!.A↔v∈B.S[y]!.A
 nx:∀x y,R x y→∀v∈A.S[x]!.A,∀a,hasA v a=true→R A.S[x]!.X[a]!.toNat B.S[y]!.X[a]!.toNat
theorem Bi.symm {A B:Spc}{R:Nat→Nat→Prop}(h:Bi A B R):Bi B A (fun y x=>R x y) :=
 ⟨h.e.symm,h.z,fun y x hr=>(h.lt x y hr).symm,fun y x hr v=>(h.acc x y hr v).symm,fun y x hr v hv a ha=>h.nx x y hr v ((h.acc x y hr v).2 hv) a ha⟩
theorem SpcK.ltA {m:Nat}{s:Spc}(h:SpcK m s){x:Nat}(hx:x<s.S.length){v:Int}(hv:v∈s.S[x]!.A){a:Nat}(ha:hasA v a=true):a<s.acts.length∧0≤s.S[x]!.X[a]!:=by
 obtain ⟨j,hj,e⟩:=getAt hv;have hst:=h.st x hx;have hlt:a<s.acts.length:=AO (n:=v.toNat) (by have:=hst.a j hj;rw [e] at this;omega) ha;exact ⟨hlt,hst.has j hj a hlt (by rw [e];exact ha)⟩
theorem Bi.hol {A B:Spc}{R:Nat→Nat→Prop}(h:Bi A B R){m q:Nat}(hA:SpcK m A)(hB:SpcK q B){x y:Nat}(hr:R x y)(hx:Hol A x):Hol B y:=by
 refine hx.2 (fun x=>∀y,R x y→Hol B y) (fun x hxl hall y hr=>?_) y hr;have hy:=(h.lt x y hr).2;refine Hol.closed B y hy (fun j hj=>?_);have hv:B.S[y]!.A[j]!∈A.S[x]!.A:=(h.acc x y hr _).2 (AJ hj);obtain ⟨i,hi,e⟩:=getAt hv;obtain ⟨a,h1,h2,h3,h4⟩:=hall i hi;rw [e] at h3;obtain ⟨g1,g2⟩:=hB.ltA hy (AJ hj) h3;exact ⟨a,by rw [(hB.st y hy).len];exact g1,g2,h3,h4 _ (h.nx x y hr _ hv a h3)⟩
theorem Bi.kept {A B:Spc}{R:Nat→Nat→Prop}(h:Bi A B R){m q:Nat}(hA:SpcK m A)(hB:SpcK q B){x y:Nat}(hr:R x y){v:Int}(hv:v∈keptL A x):v∈keptL B y:=by
 obtain ⟨h1,h2⟩:=Lx.1 hv;have hx:=(h.lt x y hr).1;refine Lx.2 ⟨(h.acc x y hr v).1 h1,fun ⟨a,g1,g2,g3,g4⟩=>h2 ?_⟩;obtain ⟨f1,f2⟩:=hA.ltA hx h1 g3;exact ⟨a,by rw [(hA.st x hx).len];exact f1,f2,g3,h.symm.hol hB hA (h.nx x y hr v h1 a g3) g4⟩
open Classical in
theorem AgY {l:List ByteArray}{t:Spc}:Ref (B5 l) t:=by
 refine Y5 (P:=fun x y=>x=0) ⟨rfl,fun x y hx _ a ha h0=>?_⟩ (fun x y hx v hv=>?_)
 ·subst hx;simp only [B5,List.getElem!_cons_zero,List.length_replicate] at ha h0;rw [getElem!_pos _ a (by simpa using ha)] at h0;simp at h0
 ·subst hx;simp [B5] at hv
theorem trimA_f {s:Spc}(h0:(Cp s)[0]! = false):trimA s=(Am s,ordOf s):=by unfold trimA;rw [if_neg (by rw [h0];simp)]
theorem Qi {s:Spc}(h0:(Cp s)[0]! = true):trimA s=(B5 s.acts,[]):=by unfold trimA;rw [if_pos h0]
theorem Bi.ref {A B:Spc}{R:Nat→Nat→Prop}(h:Bi A B R){m q:Nat}(hA:SpcK m A)(hB:SpcK q B):Ref (trimA A).1 B:=by
 cases h0:(Cp A)[0]! with
 | true=>rw [Qi h0];exact AgY
 | false =>
   rw [trimA_f h0];have hb:=hA.b hA.sz;have h1:0<A.S.length:=hA.s1;have hlen:(Am A).S.length=(ordOf A).length:=by simp [Am]
   refine Y5 (P:=fun i y=>i<(ordOf A).length∧R (ordOf A)[i]! y) ⟨⟨KR hb h1,by rw [MS hb h1];exact h.z⟩,?_⟩ ?_
   ·rintro i y ⟨hi,hr⟩ hsub a ha h0';obtain ⟨v,hv,hva⟩:=(NP hA).tight i (by rw [hlen];exact hi) a ha h0';obtain ⟨g1,g2,g3⟩:=Qr hA h0 hi hv hva;refine ⟨g2,?_⟩;rw [g3];rw [(JD hA h0 hi).1] at hv;exact h.nx _ _ hr v (Lx.1 hv).1 a hva
   ·rintro i y ⟨hi,hr⟩ v hv;rw [(JD hA h0 hi).1] at hv;exact (h.acc _ _ hr v).1 (Lx.1 hv).1
theorem Bi.reft {A B:Spc}{R:Nat→Nat→Prop}(h:Bi A B R){m q:Nat}(hA:SpcK m A)(hB:SpcK q B):Ref (trimA A).1 (trimA B).1:=by
 cases h0:(Cp A)[0]! with
 | true=>rw [Qi h0];exact AgY
 | false =>
   have h0B:(Cp B)[0]! = false:=by
    cases hb:(Cp B)[0]! with
    | false=>rfl
    | true =>
      have:=h.symm.hol hB hA h.z ((De hB.s1).1 hb);rw [(De hA.s1).2 this] at h0;cases h0
   rw [trimA_f h0,trimA_f h0B];have hb:=hA.b hA.sz;have h1:0<A.S.length:=hA.s1;have hbB:=hB.b hB.sz;have h1B:0<B.S.length:=hB.s1;have hlen:(Am A).S.length=(ordOf A).length:=by simp [Am]
   refine Y5 (P:=fun i j=>i<(ordOf A).length∧j<(ordOf B).length∧R (ordOf A)[i]! (ordOf B)[j]!) ⟨⟨KR hb h1,KR hbB h1B,by rw [MS hb h1,MS hbB h1B];exact h.z⟩,?_⟩ ?_
   ·rintro i j ⟨hi,hj,hr⟩ hsub a ha h0';obtain ⟨v,hv,hva⟩:=(NP hA).tight i (by rw [hlen];exact hi) a ha h0';have hv2:=hsub v hv;obtain ⟨g1,g2,g3⟩:=Qr hA h0 hi hv hva;obtain ⟨f1,f2,f3⟩:=Qr hB h0B hj hv2 hva;refine ⟨g2,f2,?_⟩;rw [g3,f3];rw [(JD hA h0 hi).1] at hv;exact h.nx _ _ hr v (Lx.1 hv).1 a hva
   ·rintro i j ⟨hi,hj,hr⟩ v hv;rw [(JD hA h0 hi).1] at hv;show v∈(Am B).S[j]!.A;rw [(JD hB h0B hj).1];exact h.kept hA hB hr hv
theorem Bi.both {C want:Spc}{R:Nat→Nat→Prop}(h:Bi C want R){m q:Nat}(hC:SpcK m C)(hw:SpcK q want):Ref (trimA (trimA C).1).1 want∧Ref (trimA want).1 (trimA C).1 :=
 ⟨by rw [QP hC];exact h.ref hC hw,h.symm.reft hw hC⟩
abbrev Pr:=Int×Int
def VT (n m:Nat)(p:Pr):Prop := -1≤p.1∧p.1<(n:Int) ∧ -1≤p.2∧p.2<(m:Int)∧(0≤p.1∨0≤p.2)
def RO (m:Nat)(p:Pr):Nat:=((p.1+1)*(m+1)+(p.2+1)-1).toNat
theorem AcM {n m:Nat}{p:Pr}(h:VT n m p):RO m p<n*m+n+m:=by
 obtain ⟨h1,h2,h3,h4,h5⟩:=h;unfold RO;have e1:(p.1+1)*((m:Int)+1)≤n*(m+1):=Int.mul_le_mul_of_nonneg_right (by omega) (by omega);have e2:(n:Int)*(m+1)=n*m+n:=by rw [Int.mul_add,Int.mul_one]
 have e3:((n*m:Nat):Int)=(n:Int)*m:=by simp
 have e4:0≤(p.1+1)*((m:Int)+1):=Int.mul_nonneg (by omega) (by omega);have e5:0≤p.1→(m:Int)+1≤(p.1+1)*((m:Int)+1):=fun h=>by
  have:=Int.mul_le_mul_of_nonneg_right (show (1:Int)≤p.1+1 by omega) (show (0:Int)≤m+1 by omega);omega
 omega
theorem Zu {n m:Nat}{p q:Pr}(hp:VT n m p)(hq:VT n m q)(h:RO m p=RO m q):p=q:=by
 obtain ⟨h1,h2,h3,h4,h5⟩:=hp;obtain ⟨g1,g2,g3,g4,g5⟩:=hq;unfold RO at h;have lo:∀ {a:Int},0≤a→0≤a*((m:Int)+1):=fun ha=>Int.mul_nonneg ha (by omega);have l1:=lo (show 0≤p.1+1 by omega);have l2:=lo (show 0≤q.1+1 by omega);have hi1:0≤p.1→(m:Int)+1≤(p.1+1)*((m:Int)+1):=fun h=>by
  have:=Int.mul_le_mul_of_nonneg_right (show (1:Int)≤p.1+1 by omega) (show (0:Int)≤m+1 by omega);omega
 have hi2:0≤q.1→(m:Int)+1≤(q.1+1)*((m:Int)+1):=fun h=>by
  have:=Int.mul_le_mul_of_nonneg_right (show (1:Int)≤q.1+1 by omega) (show (0:Int)≤m+1 by omega);omega
 have he:(p.1+1)*((m:Int)+1)+(p.2+1)=(q.1+1)*((m:Int)+1)+(q.2+1):=by omega
 have e1:p.1=q.1:=by
  rcases Int.lt_trichotomy p.1 q.1 with hlt|e|hlt
  ·have:=Int.mul_le_mul_of_nonneg_right (show p.1+1+1≤q.1+1 by omega) (show (0:Int)≤m+1 by omega);rw [Int.add_mul,Int.one_mul] at this;omega
  ·exact e
  ·have:=Int.mul_le_mul_of_nonneg_right (show q.1+1+1≤p.1+1 by omega) (show (0:Int)≤m+1 by omega);rw [Int.add_mul,Int.one_mul] at this;omega
 have e2:p.2=q.2:=by rw [e1] at he;omega
 exact Prod.ext e1 e2
theorem Yn {n m:Nat}{l:List Pr}(hn:l.Nodup)(hg:∀p∈l,VT n m p):l.length≤n*m+n+m:=by
 have:=EC (n:=n*m+n+m) (l:=l.map (RO m)) ?_ ?_
 ·simpa using this
 ·refine (List.pairwise_map).2 ?_;refine List.Pairwise.imp_of_mem ?_ hn;intro a b ha hb hab he;exact hab (Zu (hg a ha) (hg b hb) he)
 ·intro x hx;obtain ⟨p,hp,rfl⟩:=List.mem_map.1 hx;exact AcM (hg p hp)
structure PS (Gd:Pr→Prop)(acts:List ByteArray)(acc:Pr→Int→Prop)(nx:Pr→Nat→Pr)(go:Pr→Nat→Prop)(out:Spc)(l:List Pr):Prop where
 ac:out.acts=acts
 len:out.S.length=l.length
 z:l[0]? = some (0,0)
 nd:l.Nodup
 good:∀p∈l,Gd p
 a:∀i<l.length,∀v,v∈out.S[i]!.A↔acc l[i]! v
 ris:∀i<l.length,out.S[i]!.A.Pairwise (· < ·)
 xl:∀i<l.length,out.S[i]!.X.length=acts.length
 xg:∀i<l.length,∀a<acts.length,go l[i]! a→0≤out.S[i]!.X[a]!∧out.S[i]!.X[a]!.toNat<l.length∧l[out.S[i]!.X[a]!.toNat]! = nx l[i]! a
 xn:∀i<l.length,∀a<acts.length,¬go l[i]! a→out.S[i]!.X[a]! = -1
structure AccOk (Gd:Pr→Prop)(k:Nat)(acc:Pr→Int→Prop)(go:Pr→Nat→Prop):Prop where
 b:∀p v,Gd p→acc p v→0≤v∧v<((2 ^ k:Nat):Int)
 g:∀p v a,Gd p→acc p v→hasA v a=true→go p a
theorem PS.pos {Gd:Pr→Prop}{acts:List ByteArray}{acc:Pr→Int→Prop}{nx:Pr→Nat→Pr}{go:Pr→Nat→Prop}{out:Spc}{l:List Pr}(h:PS Gd acts acc nx go out l):0<l.length:=List.lt_of_some h.z
theorem PS.zero {Gd:Pr→Prop}{acts:List ByteArray}{acc:Pr→Int→Prop}{nx:Pr→Nat→Pr}{go:Pr→Nat→Prop}{out:Spc}{l:List Pr}(h:PS Gd acts acc nx go out l):l[0]! = (0,0):=by
 rw [List.getElem!_eq_getElem?_getD,h.z];rfl
theorem PS.ok {Gd:Pr→Prop}{acts:List ByteArray}{acc:Pr→Int→Prop}{nx:Pr→Nat→Pr}{go:Pr→Nat→Prop}{out:Spc}{l:List Pr}(h:PS Gd acts acc nx go out l)(ha:actsOk acts=true)(hA:AccOk Gd acts.length acc go){q:Nat}(hq:l.length≤q∧l.length≤12000):SpcK q out:=by
 have hpos:=h.pos;have hl:=h.len;refine ⟨by rw [h.ac];exact ha,by omega,by omega,fun i hi=>?_⟩;rw [hl] at hi;rw [h.ac,hl];have hg:=h.good _ (AJ hi);refine ⟨h.xl i hi,fun j hj=>hA.b _ _ hg ((h.a i hi _).1 (AJ hj)),fun j hj h0=>Wx (h.ris i hi) hj h0,fun a ha=>?_,fun j hj a ha hb=>?_⟩
 ·by_cases hgo:go l[i]! a
  ·have:=h.xg i hi a ha hgo;omega
  ·have:=h.xn i hi a ha hgo;omega
 ·exact (h.xg i hi a ha (hA.g _ _ a hg ((h.a i hi _).1 (AJ hj)) hb)).1
def accP (s:Spc)(x v:Int):Prop:=0≤x∧v∈s.S[x.toNat]!.A
def nx1 (s:Spc)(x:Int)(a:Nat):Int:=if x<0 then -1 else s.S[x.toNat]!.X[a]!
def nxP (s t:Spc)(p:Pr)(a:Nat):Pr:=(nx1 s p.1 a,nx1 t p.2 a)
def accM (s t:Spc)(p:Pr)(v:Int):Prop:=accP s p.1 v∧accP t p.2 v
def usedP (acc:Pr→Int→Prop)(p:Pr)(a:Nat):Prop:=∃v,acc p v∧hasA v a=true
def goM (s t:Spc)(p:Pr)(a:Nat):Prop:=0≤(nxP s t p a).1∧0≤(nxP s t p a).2
def gdM (n m:Nat)(p:Pr):Prop:=0≤p.1∧p.1<(n:Int)∧0≤p.2∧p.2<(m:Int)
theorem YK {n m:Nat}{p:Pr}(h:gdM n m p):VT n m p:=by obtain ⟨h1,h2,h3,h4⟩:=h;exact ⟨by omega,h2,by omega,h4,.inl h1⟩
section
variable {m q:Nat}{s t:Spc}
theorem QR (hs:SpcK m s){x v:Int}(hx:x<(s.S.length:Int))(h:accP s x v):0≤v∧v<((2 ^ s.acts.length:Nat):Int):=by
 obtain ⟨h1,h2⟩:=h;obtain ⟨j,hj,e⟩:=getAt h2;have:=(hs.st x.toNat (by omega)).a j hj;rwa [e] at this
theorem AdS (hs:SpcK m s){x v:Int}(hx:x<(s.S.length:Int))(h:accP s x v){a:Nat}(ha:hasA v a=true):0≤nx1 s x a:=by
 obtain ⟨h1,h2⟩:=h;unfold nx1;rw [if_neg (by omega)];exact (hs.ltA (x:=x.toNat) (by omega) h2 ha).2
theorem Aed (hs:SpcK m s){x:Int}(hx:x<(s.S.length:Int)){a:Nat}(ha:a<s.acts.length) : -1≤nx1 s x a∧nx1 s x a<(s.S.length:Int):=by
 have:=hs.s1;unfold nx1;split
 ·omega
 ·exact (hs.st x.toNat (by omega)).x a ha
theorem Aju (hs:SpcK m s)(ht:SpcK q t)(he:t.acts=s.acts){p:Pr}(hp:gdM s.S.length t.S.length p){a:Nat}(ha:a<s.acts.length)(hg:goM s t p a):gdM s.S.length t.S.length (nxP s t p a):=by
 have h1:=Aed hs hp.2.1 ha;have h2:=Aed ht hp.2.2.2 (a:=a) (by rw [he];exact ha);exact ⟨hg.1,h1.2,hg.2,h2.2⟩
theorem Agp (hs:SpcK m s)(ht:SpcK q t){p:Pr}(hp:gdM s.S.length t.S.length p){v:Int}(hv:accM s t p v){a:Nat}(ha:hasA v a=true):goM s t p a :=
 ⟨AdS hs hp.2.1 hv.1 ha,AdS ht hp.2.2.2 hv.2 ha⟩
theorem TB (hs:SpcK m s)(ht:SpcK q t):AccOk (gdM s.S.length t.S.length) s.acts.length (accM s t) (goM s t) :=
 ⟨fun p v hp hv=>QR hs hp.2.1 hv.1,fun p v a hp hv ha=>Agp hs ht hp hv ha⟩
theorem AccOk.used {Gd:Pr→Prop}{k:Nat}{acc:Pr→Int→Prop}{go:Pr→Nat→Prop}(h:AccOk Gd k acc go):AccOk Gd k acc (usedP acc):=⟨h.b,fun p v a _ hv ha=>⟨v,hv,ha⟩⟩
end
end Go.Mw
namespace Go.Mw
set_option maxRecDepth 100000
def acL7 (s:Spc)(x:Int):List Int:=if x<0 then [] else s.S[x.toNat]!.A
theorem Acv (s:Spc)(x:Int)(hx:x<(s.S.length:Int)):Fn G Ct [eSp s,I x] (.lst ((acL7 s x).map I)):=by
 refine FnP.mk' Vq rfl rfl ?_;by_cases h:x<0
 ·simp only [go_sem,↓reduceIte,↓Aa,K7,eSp,h,acL7,if_true]
 ·obtain ⟨k,rfl⟩:∃k:Nat,x=k:=⟨x.toNat,by omega⟩;have hk:k<s.S.length:=by omega
  simp only [go_sem,↓reduceIte,↓Aa,K7,eSp,h,if_false,hk,eSt,acL7,Int.toNat_natCast]
theorem Yl (s:Spc)(x:Int)(hx:x<(s.S.length:Int))(a:Nat)(ha:0≤x→a<s.S[x.toNat]!.X.length):FnT G Eg [eSp s,I x,I a] (I (nx1 s x a)):=by
 refine FnP.mk' Z5 rfl rfl ?_;by_cases h:x<0
 ·simp only [go_sem,↓reduceIte,↓Aa,NJ,eSp,h,if_true,nx1]
 ·obtain ⟨k,rfl⟩:∃k:Nat,x=k:=⟨x.toNat,by omega⟩;have hk:k<s.S.length:=by omega
  have ha':=ha (by omega);rw [Int.toNat_natCast] at ha';simp only [go_sem,↓reduceIte,↓Aa,NJ,eSp,h,if_false,hk,eSt,nx1,Int.toNat_natCast,ha']
theorem Aez (s:Spc):FnT G Fs [eSp s] (Bo (decide (s.acts.length=0∧s.S.length=0))):=by
 refine FnP.mk' ZD rfl rfl ?_;have e:∀n:Nat,((n:Int)==0)=decide (n=0):=fun n=>by
  by_cases h:n=0
  ·subst h;rfl
  ·rw [decide_eq_false h,beq_eq_false_iff_ne];omega
 by_cases h1:s.acts.length=0<;>by_cases h2:s.S.length=0<;>simp only [go_sem,↓reduceIte,↓Aa,R5,eSp,e,h1,h2,decide_true,decide_false,and_true,and_false,true_and,false_and]
theorem takeCellK_mp {h:List Ob}{r st ss:Nat}{p:Path}{q:AV→List Ob→Prop}:BM h (.mp r st p ss) q=Br h r st p ss (fun nd=>Qf nd (fun es=>HR h r p .gone false (fun h'=>q (.ownm es) h'))):=by
 simp only [BM,takeCell,Br,Qf,HR];cases node h r st p ss with
 | none=>rfl
 | some nd =>
   cases nd<;>first|rfl|skip
   simp only;cases setOb h r p .gone false<;>rfl
theorem one_mp {h:List Ob}{r st ss:Nat}{p:Path}:QU h (.mp r st p ss)=Br h r st p ss (fun nd=>Qf nd (fun _=>True)):=by
 simp only [QU,LP,Br,Qf];cases node h r st p ss with
 | none=>simp
 | some nd=>cases nd<;>simp
theorem cells_mp {r st ss:Nat}{p:Path}:(AV.mp r st p ss).cells = [.mp r st p ss]:=(rfl)
theorem isNode_ownm {es:List (AV×AV)}:isNode (.ownm es)=true:=(rfl)
theorem lokK_mpP {kk:KK}{z:AV}{ok:Bool}{x:AV}{h:List Ob}{r st ss:Nat}{p:Path}{q:AV→Prop}:AiS kk z ok (.mp r st p ss) x h q=Br h r st p ss (fun nd=>Qf nd (fun es=>AiP kk z ok x es q)):=by
 simp only [AiS,Br,Qf,AiP];cases node h r st p ss with
 | none=>rfl
 | some nd=>cases nd<;>rfl
def Aim (kk:KK)(x v:AV)(es:List (AV×AV))(k:List (AV×AV)→Prop)(u:Tg k:=tg):Prop :=
 match findK kk x es with
 | some (some i)=>(match es[i]? with|some (k',_)=>k (es.set i (k',v))|none=>False)
 | some none=>k (es++[(x,v)])
 | none=>False
theorem Z9 {kk:KK}{x x' v v':AV}{es es':List (AV×AV)}{k:List (AV×AV)→Prop}(h0:x=x')(h1:v=v')(h2:es=es'):Aim kk x v es k=Aim kk x' v' es' k:=by cases h0;cases h1;cases h2;rfl
attribute [congr] Z9
theorem mupK_mpP {kk:KK}{x v:AV}{h:List Ob}{r st ss:Nat}{p:Path}{q:List Ob→Prop}:AiK kk (.mp r st p ss) x v h q =
 Br h r st p ss (fun nd=>Qf nd (fun es=>(v.free=true∧x.free=true)∧Aim kk x v es (fun es'=>HR h r p (.ownm es') false q))):=by
 simp only [AiK,Br,Qf,Aim,HR];cases node h r st p ss with
 | none=>rfl
 | some nd =>
   cases nd<;>first|rfl|skip
   rename_i es;simp only;by_cases hc:v.free=true∧x.free=true
   ·simp only [hc,and_self,if_true,true_and];cases findK kk x es with
    | none=>rfl
    | some o =>
      cases o with
      | none=>rfl
      | some i =>
        simp only;cases es[i]? with
        | none=>rfl
        | some e=>rfl
   ·rw [if_neg hc];simp only [hc,false_and]
theorem mupF_E {a c:Int}{v:AV}{l:List KV}{q:List (AV×AV)→Prop}:Aim (true,[1,1]) (.agg [I a,I c]) v (FF l) q=q (FF (putM l (a,c) v)):=by
 have h:=@mupE_E a c v [] 0 0 0 l (fun h=>True);simp only [Aim,findK_E];cases hf:l.findIdx? fun e=>e.1==(a,c) with
 | none =>
   have:=@TC l (a,c) v v hf;simp only [putM,this];simp [FF,eKV]
 | some i =>
   obtain ⟨hi,_⟩:=Ael hf;have hs:Aem l (a,c)=true:=by rw [Ql,hf];rfl
   have hg:(FF l)[i]? = some (eKV l[i]):=by simp [FF,hi]
   simp only [hg];simp only [putM,ensM,hs,if_true,idxM,hf,Option.getD_some];rw [←Acb hg]
theorem mupF_nil {a c:Int}{v:AV}{q:List (AV×AV)→Prop}:Aim (true,[1,1]) (.agg [I a,I c]) v [] q=q (FF (putM [] (a,c) v)):=@mupF_E a c v [] q
theorem cells_nilm:AV.nilm.cells = [.nilm]:=(rfl)
theorem plain_nilm:AV.nilm.plain=true:=(rfl)
theorem AjU {x:Opd}{p:Nat}{kt ks:List Nat}{asg body:C}{b:Nat}{σ:St}{Q:Ex→St→Prop}(set:Nat)(hs:set<2 ^ 62)(hx:σ.get x = .fn FG [.pfro [I set]])
 (Inv:Nat→List Ob→Prop) (hlen:∀a h,Inv a h→h.length=σ.h.length) (h0:Inv 0 σ.h) (skip:∀a h,set.testBit a=false→Inv a h→Inv (a+1) h)
 (step:∀a h (LF LT:List Lp),set.testBit a=true→a<62→Inv a h→Wp G asg b ⟨(kill kt σ.t).set p (I a),freeSites b ks h,LF⟩ (fun e σ1=>e = .nrm∧σ1.lp=LF ∧
   Wp G body b { σ1 with lp:=LT } (fun e σ2=>σ2.lp=LT∧match e with | .nrm=>Inv (a+1) σ2.h|e=>σ2.h.length=σ.h.length∧Q e ⟨σ.t,σ2.h,σ.lp⟩)))
 (fin:∀a h,set<2 ^ a→Inv a h→Q .nrm ⟨σ.t,h,σ.lp⟩):Wp G (.rngf x [p] kt ks asg body) b σ Q :=
 AdH set hs hx Inv hlen h0 skip (fun a h h1 h2 h3=>step a h _ _ h1 h2 h3) fin
def To:List Pr→Nat→List KV
 | [],_=>[]
 | x::l,j=>(x,I (j:Nat))::To l (j+1)
def Yx (l:List Pr):List KV:=To l 0
theorem PN {k:Pr}:∀ {l:List Pr}{j:Nat},(To l j).find? (fun e=>e.1==k)=if k∈l then some (k,I ((j+l.idxOf k:Nat))) else none:=by
 intro l;induction l with
 | nil=>intro j;simp [To]
 | cons x l ih =>
   intro j;simp only [To,List.find?_cons];by_cases e:x=k
   ·subst e;simp
   ·have hb:(x==k)=false:=beq_eq_false_iff_ne.2 e;rw [hb];simp only [ih,List.mem_cons,List.idxOf_cons,hb,cond_false];by_cases hm:k∈l
    ·rw [if_pos hm,if_pos (.inr hm)];congr 4;omega
    ·rw [if_neg hm,if_neg (by rintro (h|h);exact e h.symm;exact hm h)]
theorem YN {l:List Pr}{k:Pr}(h:k∉l):(Yx l).findIdx? (fun e=>e.1==k)=none:=by
 have h1:=@PN k l 0;rw [if_neg h] at h1;rw [List.findIdx?_eq_none_iff];rw [List.find?_eq_none] at h1;intro x hx;have:=h1 x hx;simpa using this
theorem Ad6 {l:List Pr}{k:Pr}{z:AV}:Z7 (Yx l) k z=if k∈l then I (l.idxOf k:Nat) else z:=by
 unfold Z7 Yx;rw [PN];by_cases h:k∈l
 ·rw [if_pos h,if_pos h];simp
 ·rw [if_neg h,if_neg h]
theorem Y6 {l:List Pr}{k:Pr}:Aem (Yx l) k=decide (k∈l):=by
 by_cases h:k∈l
 ·rw [decide_eq_true h];have h1:=@PN k l 0;rw [if_pos h] at h1;exact List.any_eq_true.2 ⟨_,List.mem_of_find?_eq_some h1,by simp⟩
 ·rw [decide_eq_false h,Ql,YN h];rfl
theorem AeK {k:Pr}:∀ {l:List Pr}{j:Nat},To (l++[k]) j=To l j++[(k,I ((j+l.length:Nat)))]:=by
 intro l;induction l with
 | nil=>intro j;simp [To]
 | cons x l ih =>
   intro j;simp only [List.cons_append,To,ih,List.length_cons];rw [show j+1+l.length=j+(l.length+1) by omega]
theorem Yw {l:List Pr}{k:Pr}(h:k∉l):putM (Yx l) k (I (l.length:Nat))=Yx (l++[k]):=by
 unfold putM;rw [TC (YN h)];unfold Yx;rw [AeK,Nat.zero_add]
section
variable {Gd:Pr→Prop}{n:Nat}{sets:Pr→List Int}{nx:Pr→Nat→Pr}
structure CX (Gd:Pr→Prop)(n:Nat)(go:Nat→Prop)(nx:Nat→Pr)(l0:List Pr)(a:Nat)(l:List Pr)(X:List Int):Prop where
 pre:l0 <+: l
 nd:l.Nodup
 good:∀q∈l,Gd q
 xl:X.length=n
 u:∀b<n,b<a→go b→0≤X[b]!∧X[b]!.toNat<l.length∧l[X[b]!.toNat]! = nx b
 r:∀b<n,(a≤b∨¬go b)→X[b]! = -1
variable {go:Nat→Prop}{nxt:Nat→Pr}{l0 l:List Pr}{X:List Int}{a:Nat}
theorem CX.start (hn:l0.Nodup)(hg:∀q∈l0,Gd q):CX Gd n go nxt l0 0 l0 (List.replicate n (-1)) :=
 ⟨List.prefix_refl _,hn,hg,by simp,fun b _ h=>by omega,fun b hb _=>by rw [getElem!_pos _ b (by simpa using hb)];simp⟩
theorem CX.skip (h:CX Gd n go nxt l0 a l X)(hu:¬go a):CX Gd n go nxt l0 (a+1) l X :=
 ⟨h.pre,h.nd,h.good,h.xl,fun b hb hba hub=>h.u b hb (by rcases Nat.lt_or_eq_of_le (Nat.le_of_lt_succ hba) with h1|rfl;exact h1;exact absurd hub hu) hub,
  fun b hb hc=>h.r b hb (by
   rcases hc with hc|hc
   ·exact .inl (by omega)
   ·exact .inr hc)⟩
theorem idx_getP {l:List Pr}{k:Pr}(h:k∈l):l.idxOf k<l.length∧l[l.idxOf k]! = k:=by
 have hl:=List.idxOf_lt_length_of_mem h;exact ⟨hl,by rw [getElem!_pos l _ hl,List.getElem_idxOf]⟩
theorem CX.put (h:CX Gd n go nxt l0 a l X)(ha:a<n){l':List Pr}{k:Nat}(hp:l <+: l')(hn:l'.Nodup)(hg:∀q∈l',Gd q)(hk:k<l'.length)(he:l'[k]! = nxt a)(hu:go a):CX Gd n go nxt l0 (a+1) l' (X.set a (k:Int)):=by
 have hxl:=h.xl;have hs:∀b,(X.set a (k:Int))[b]! = if a=b then (k:Int) else X[b]!:=fun b=>AcO (by omega);refine ⟨h.pre.trans hp,hn,hg,by rw [List.length_set];exact hxl,fun b hb hba hub=>?_,fun b hb hc=>?_⟩
 ·rw [hs];by_cases e:a=b
  ·subst e;rw [if_pos rfl,Int.toNat_natCast];exact ⟨by omega,hk,he⟩
  ·rw [if_neg e];obtain ⟨h1,h2,h3⟩:=h.u b hb (by omega) hub;exact ⟨h1,Nat.lt_of_lt_of_le h2 hp.length_le,by rw [EN hp h2];exact h3⟩
 ·rw [hs];by_cases e:a=b
  ·subst e;rcases hc with hc|hc
   ·omega
   ·exact absurd hu hc
  ·rw [if_neg e];refine h.r b hb ?_;rcases hc with hc|hc
   ·exact .inl (by omega)
   ·exact .inr hc
theorem nodup_snoc {l:List Pr}{k:Pr}(hn:l.Nodup)(hk:k∉l):(l++[k]).Nodup:=by
 rw [List.nodup_append];exact ⟨hn,by simp,fun a ha b hb e=>by rw [List.mem_singleton] at hb;subst hb;exact hk (e▸ha)⟩
theorem CX.old (h:CX Gd n go nxt l0 a l X)(ha:a<n)(hu:go a)(hm:nxt a∈l):CX Gd n go nxt l0 (a+1) l (X.set a (l.idxOf (nxt a):Nat)) :=
 h.put ha (List.prefix_refl _) h.nd h.good (idx_getP hm).1 (idx_getP hm).2 hu
theorem CX.new (h:CX Gd n go nxt l0 a l X)(ha:a<n)(hu:go a)(hg:Gd (nxt a))(hm:nxt a∉l):CX Gd n go nxt l0 (a+1) (l++[nxt a]) (X.set a (l.length:Nat)) :=
 h.put ha (List.prefix_append _ _) (nodup_snoc h.nd hm) (fun q hq=>by
  rw [List.mem_append,List.mem_singleton] at hq;rcases hq with hq|rfl
  ·exact h.good q hq
  ·exact hg) (by simp) (by rw [getElem!_pos _ _ (by simp)];simp) hu
structure CI (Gd:Pr→Prop)(n:Nat)(sets:Pr→List Int)(nx:Pr→Nat→Pr)(go:Pr→Nat→Prop)(i:Nat)(l:List Pr)(outs:List Stt):Prop where
 len:outs.length=i
 il:i≤l.length
 z:l[0]? = some (0,0)
 nd:l.Nodup
 good:∀q∈l,Gd q
 a:∀j<i,outs[j]!.A=sets l[j]!
 xl:∀j<i,outs[j]!.X.length=n
 xg:∀j<i,∀b<n,go l[j]! b→0≤outs[j]!.X[b]!∧outs[j]!.X[b]!.toNat<l.length∧l[outs[j]!.X[b]!.toNat]! = nx l[j]! b
 xn:∀j<i,∀b<n,¬go l[j]! b→outs[j]!.X[b]! = -1
variable {goP:Pr→Nat→Prop}{i:Nat}{outs:List Stt}
theorem CI.start (h0:Gd (0,0)):CI Gd n sets nx goP 0 [(0,0)] [] :=
 ⟨rfl,by simp,rfl,by simp,fun q hq=>by rw [List.mem_singleton] at hq;rw [hq];exact h0,fun j h=>by omega,fun j h=>by omega,fun j h=>by omega,fun j h=>by omega⟩
theorem B1 {α:Type}[Inhabited α]{l:List α}{x:α}{j:Nat}:(l++[x])[j]! = if j=l.length then x else l[j]!:=by
 by_cases h:j<l.length
 ·rw [if_neg (by omega),getElem!_pos _ j (by simp;omega),getElem!_pos l j h,List.getElem_append_left h]
 ·by_cases e:j=l.length
  ·subst e;rw [if_pos rfl,getElem!_pos _ _ (by simp)];simp
  ·rw [if_neg e,List.getElem!_eq_getElem?_getD,List.getElem!_eq_getElem?_getD,List.getElem?_eq_none (by simp;omega),List.getElem?_eq_none (by omega)]
theorem CI.next (h:CI Gd n sets nx goP i l0 outs)(hi:i<l0.length){a:Nat}(hna:∀b<n,a≤b→¬goP l0[i]! b)(hx:CX Gd n (goP l0[i]!) (nx l0[i]!) l0 a l X):CI Gd n sets nx goP (i+1) l (outs++[⟨sets l0[i]!,X⟩]):=by
 have hl:=h.len;have hpl:=hx.pre.length_le;have hg:∀j≤i,l[j]! = l0[j]!:=fun j hj=>EN hx.pre (by omega);refine ⟨by simp [hl],by omega,?_,hx.nd,hx.good,fun j hj=>?_,fun j hj=>?_,fun j hj b hb hgo=>?_,fun j hj b hb hgo=>?_⟩
 ·obtain ⟨r,hr⟩:=hx.pre;rw [←hr,List.getElem?_append_left (by omega)];exact h.z
 ·rw [B1,hl];by_cases e:j=i
  ·subst e;rw [if_pos rfl,hg j (Nat.le_refl _)]
  ·rw [if_neg e,hg j (by omega)];exact h.a j (by omega)
 ·rw [B1,hl];by_cases e:j=i
  ·subst e;rw [if_pos rfl];exact hx.xl
  ·rw [if_neg e];exact h.xl j (by omega)
 ·rw [B1,hl];rw [hg j (by omega)] at hgo ⊢;by_cases e:j=i
  ·subst e;rw [if_pos rfl];exact hx.u b hb (Classical.byContradiction fun hc=>hna b hb (by omega) hgo) hgo
  ·rw [if_neg e];obtain ⟨h1,h2,h3⟩:=h.xg j (by omega) b hb hgo;exact ⟨h1,by omega,by rw [EN hx.pre h2];exact h3⟩
 ·rw [B1,hl];rw [hg j (by omega)] at hgo;by_cases e:j=i
  ·subst e;rw [if_pos rfl];exact hx.r b hb (.inr hgo)
  ·rw [if_neg e];exact h.xn j (by omega) b hb hgo
theorem CI.fin (h:CI Gd n sets nx goP i l outs)(hi:i=l.length){acts:List ByteArray}(ha:acts.length=n)(hris:∀p,Gd p→(sets p).Pairwise (· < ·)):PS Gd acts (fun p v=>v∈sets p) nx goP ⟨acts,outs⟩ l:=by
 subst hi;subst ha;exact ⟨rfl,h.len,h.z,h.nd,h.good,fun i hi v=>by rw [h.a i hi],fun i hi=>by rw [h.a i hi];exact hris _ (h.good _ (AJ hi)),h.xl,h.xg,h.xn⟩
end
end Go.Mw
