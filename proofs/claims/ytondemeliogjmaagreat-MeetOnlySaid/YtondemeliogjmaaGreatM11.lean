/- Soundness: a call. -/
import Derived.Test.YtondemeliogjmaaGreatM10
set_option linter.unusedVariables false
set_option linter.unusedSimpArgs false
namespace Go.Mw
open Go.RowKit
section
variable {P:Program}{w0:World}{fz0:Nat→Prop}{B:Nat}{m m':Mem}{w w':World}{las:Las}{h h':List Ob}{σ σ':St}{a:Act}
theorem dropRoots_len (h:List Ob)(rs:List Nat):(At h rs).length=h.length:=by
 unfold At;induction rs generalizing h with
 | nil=>rfl
 | cons r rs ih=>rw [List.foldl_cons,ih];simp
theorem Hl (rs:List Nat):∀(h:List Ob) (r:Nat) (o:Ob),h[r]? = some o→(At h rs)[r]? = some (if r∈rs then { o with c:=.gone } else o):=by
 unfold At;induction rs with
 | nil=>intro h r o ho;simpa using ho
 | cons q rs ih =>
   intro h r o ho;rw [List.foldl_cons];by_cases e:q=r
   ·subst e;have h1:(h.modify q fun o=>{ o with c:=.gone })[q]? = some { o with c:=.gone }:=by
     rw [List.getElem?_modify];simp [ho]
    rw [ih _ _ _ h1];simp
   ·have h1:(h.modify q fun o=>{ o with c:=.gone })[r]? = some o:=by
     rw [List.getElem?_modify];simp [e,ho]
    rw [ih _ _ _ h1];have:(r∈q::rs)↔r∈rs:=by simp [show ¬r=q from fun h=>e h.symm]
    simp only [this]
theorem JK (m:Mem)(h:List Ob)(rs:List Nat):HStep m m h (At h rs):=by
 intro r o ho;refine ⟨_,Hl rs h r o ho,?_⟩;split
 ·refine .inr ⟨rfl,.inr ⟨rfl,fun p nd hn hi=>?_⟩⟩;exact (Hg hn hi).elim
 ·exact BQ.refl _ _ _
theorem JG {rs:List Nat}{r:Nat}{p:Path}{nd:AV}(hn:nodeAt (At h rs) r p=some nd)(hi:isNode nd=true):nodeAt h r p=some nd∧r∉rs:=by
 obtain ⟨o,e,hnav⟩:=Ac.1 hn;have hlt:=List.lt_of_some e;rw [dropRoots_len] at hlt;have h1:=Hl rs h r _ (List.getElem?_eq_getElem hlt);rw [e] at h1;split at h1
 ·simp only [Option.some.injEq] at h1;subst h1;exact (Hg hnav hi).elim
 ·rename_i hne;simp only [Option.some.injEq] at h1;subst h1;exact ⟨Ac.2 ⟨_,List.getElem?_eq_getElem hlt,hnav⟩,hne⟩
theorem Mg {v:AV}(h:v.free1=true):rootsOf v = []:=by
 cases v<;>first|rfl|(simp [AV.free1] at h)
theorem Lm {xs:List AV}(h:∀x∈xs,rootsOf x = []):rootsL xs = []:=by
 induction xs with
 | nil=>rfl
 | cons x xs ih=>simp only [rootsL,h x (List.mem_cons_self ..),ih (fun y hy=>h y (List.mem_cons_of_mem _ hy)),List.append_nil]
theorem P2 {v:AV}(h:v.free2=true):rootsOf v = []:=by
 have fnc:∀ {f:FuncId}{ds:List AV},ds.all AV.free1=true→rootsOf (.fn f ds) = []:=by
  intro f ds h;simp only [List.all_eq_true] at h;exact Lm (fun x hx=>Mg (h x hx))
 cases v
 case agg cs =>
  simp only [AV.free2,List.all_eq_true] at h;refine Lm (fun x hx=>?_);have h1:=h x hx;split at h1
  ·exact fnc h1
  ·exact Mg h1
 case fn f ds=>exact fnc (by simpa [AV.free2] using h)
 all_goals exact Mg h
theorem AaQ {v:AV}(h:v.free=true):rootsOf v = []:=by
 cases v
 case tup vs =>
  simp only [AV.free,List.all_eq_true] at h;exact Lm (fun x hx=>P2 (h x hx))
 all_goals exact P2 h
theorem Lv {w1:World}(hb:Below w.heap.size w w1):WKeep w w1:=by
 have hh:∀(k:Nat) (o:Obj),w.heap[k]? = some o→w1.heap[k]? = some o:=fun k o ho=>by rw [hb.block k (Array.getElem?_eq_some_iff.1 ho).1];exact ho
 exact ⟨fun b arr ty h=>⟨arr,hh _ _ h,rfl⟩,fun b en ck h=>⟨en,ck,hh _ _ h,fun i e he=>⟨e,he,rfl⟩⟩,fun b o h _=>hh _ _ h,hb.size⟩
theorem Rel.back (hr:Rel w0 fz0 m h w){w1:World}(hb:Below w.heap.size w w1){X:Nat→Prop}{fz3:Nat→Prop}(h1:∀b,m.fz b→fz3 b)(h2:∀b,fz3 b→b<w1.heap.size)
 (h3:∀b,fz3 b→(m.fz b∨Ajo m h X b)∨w.heap.size≤b) (ho:∀r p nd,nodeAt h' r p=some nd→isNode nd=true→nodeAt h r p=some nd∧¬X r):Rel w0 fz0 { blk:=m.blk,fz:=fz3 } h' w1:=by
 have hc:=hr.congr (h':=h') (fun r p nd hn hi=>(ho r p nd hn hi).1);have hk:=Lv hb;refine hc.keep (m':={ blk:=m.blk,fz:=fz3 }) rfl (hr.below.trans (hb.mono hr.below.size)) hb.size (fun r p nd hn hi=>hb.block _ ((hc.nodes r p nd hn).lt hi)) (fun r p nd hn hi=>?_) hk.zero (fun b o v hb' hcc=>(World.cell?_of_block (a:=⟨b,o,none⟩) (hb.block b (hr.fzlt b hb'))).trans hcc) h1 h2 (fun b hb=>h1 b (hr.fzin b hb)) (fun b hb=>?_)
 ·obtain ⟨g1,g2⟩:=ho r p nd hn hi;have hlo:=hr.lo r p nd g1 hi;refine ⟨hlo.1,fun hf=>?_⟩;rcases h3 _ hf with (hf|⟨r2,p2,nd2,hx,hn2,hi2,e⟩)|hge
  ·exact hlo.2 hf
  ·obtain ⟨e1,_⟩:=hr.inj r2 p2 nd2 r p nd hn2 hi2 g1 hi e;subst e1;exact g2 hx
  ·have:=(hr.nodes r p nd g1).lt hi;omega
 ·rcases h3 b hb with (hf|⟨r2,p2,nd2,hx,hn2,hi2,rfl⟩)|hge
  ·exact hr.fzge b hf
  ·exact .inr (hr.lo r2 p2 nd2 hn2 hi2).1
  ·exact .inr (Nat.le_trans hr.below.size hge)
theorem Ws {G:Prg}{n:Nat}(hF:FunS P G (runF G n)):CallS P (callF G (n+1)):=by
 intro f xs b ss σ v σ' hx w0 fz0 B m las a w args hs hargs;simp only [callF] at hx;cases hg:G f with
 | none=>simp [hg] at hx
 | some F =>
   simp only [hg] at hx;split at hx
   ·rename_i hnp;split at hx
    ·-- by value
     rename_i hpure;split at hx
     ·-- asked of nil and of what is not nil
      rename_i hsp;have hr:=hs.rel;have hall:∃x,xs = [x]∧treeB 0 σ.h x = .lst []:=by
       unfold splits at hsp;split at hsp
       ·rename_i htr;rw [treeBL_map] at htr;cases xs with
        | nil=>simp at htr
        | cons x xs =>
          cases xs with
          | nil=>simp at htr;exact ⟨x,rfl,htr⟩
          | cons y ys=>simp at htr
       ·cases hsp
      obtain ⟨x,rfl,hxt⟩:=hall;have hargs1:VRels w (m.freeze σ.h (fun r=>r∈rootsL [x])).fz (RefR w (m.freeze σ.h (fun r=>r∈rootsL [x])) [] (Lof [])) (treeBL 0 σ.h [x]) args.toList :=
       K4 hr (fun v c hi hlt hex _=>by obtain ⟨r,hr⟩:=hex;exact absurd (hlt r hr) (Nat.not_lt_zero _)) hargs (fun r hr=>.inr hr)
      have hcs:∃c,args.toList = [c]:=by
       have h1:=hargs.1
       match hh:args.toList,h1 with
       | [c],_=>exact ⟨c,rfl⟩
      obtain ⟨c0,hc0⟩:=hcs;have hc1:∃A cap,c0 = .slice A 0 cap∧(A=none→cap=0):=by
       have h1:=hargs1.2 0 (.lst []) c0 (by rw [treeBL_map];simp [hxt]) (by rw [hc0];rfl);rcases h1.inv_lst with ⟨_,e⟩|⟨A,cap,es,vs,e,_⟩
       ·exact ⟨none,0,e,fun _=>rfl⟩
       ·exact ⟨some A,cap,by simpa using e,fun h=>by cases h⟩
      have Rm1:Rel w m.fz m [] w:=by
       refine ⟨Below.refl _ _,fun b hb=>hr.fzlt b hb,fun _ h=>h,fun _ h=>.inl h,fun r p nd hn=>by simp [nodeAt] at hn,fun r p nd hn=>by simp [nodeAt] at hn,fun r p nd r2 p2 nd2 hn=>by simp [nodeAt] at hn⟩
      have fin:∀(ys:List AV) (y:AV) (σ1:St),runF G n F ys [] []=some ([y],σ1)→ys.length=F.np→VRels w m.fz (RefR w m [] (Lof [])) ys args.toList→y.void=true →
       ∃c w' m',Sim P w0 fz0 B m' las σ a w'∧σ.t=σ.t∧Ev m σ.h w m' σ.h w'∧σ.h.length=σ.h.length∧VRel w' m'.fz (RefR w' m' σ.h (Lof las)) (if (F.fo && !ss.isEmpty) then .emp else .lst []) c∧XQ P f args w c w':=by
       intro ys y σ1 hrun hl hya hy;obtain ⟨m2,w2,cs,q1,q2,q3,q4,q5,q6⟩:=hF f F ys [] [] [y] σ1 hg hrun hl w m.fz m [] w args hya Rm1 ⟨rfl,by simp,fun l la top x h=>by simp at h⟩;have hbel:Below w.heap.size w w2:=q2.below;have hcs2:∃c,cs = [c]:=by
        match cs,q1.1 with
        | [c],_=>exact ⟨c,rfl⟩
       obtain ⟨c,rfl⟩:=hcs2;have hv:=q1.2 0 y c rfl rfl;have hk:=Lv hbel;have hev:Ev m σ.h w m σ.h w2 :=
        ⟨HStep.refl m _,hk.1,hk.2.1,fun b o v hb' hcc=>(World.cell?_of_block (a:=⟨b,o,none⟩) (hbel.block b (hr.fzlt b hb'))).trans hcc,fun _ h=>h,fun b ds hb=>hk.2.2.1 b _ hb rfl,hk.2.2.2⟩
       refine ⟨KX [c],w2,m,⟨hs.tr.ev hev (fun _ _ h=>h),hr.back (X:=fun _=>False) hbel (fun _ h=>h) (fun b hb=>Nat.lt_of_lt_of_le (hr.fzlt b hb) hbel.size) (fun b hb=>.inl (.inl hb)) (fun r p nd hn hi=>⟨hn,id⟩),
        hs.lps.ev' hev (fun l la hla=>?_),hs.dfs.keep hev.dfr,hs.bs.1,Nat.le_trans hs.bs.2 hev.sz⟩,rfl,hev,rfl,?_,q6⟩
       ·obtain ⟨top,hla⟩:=hla;have hlt:l<σ.lp.length:=by rw [←hs.lps.len];exact List.lt_of_some hla
        obtain ⟨_,_,r,hrr,_⟩:=hs.lps.ok l la top _ hla (List.getElem?_eq_getElem hlt);exact hbel.block la (Array.getElem?_eq_some_iff.1 hrr).1
       ·have:KX [c]=c:=by simp [KX]
        rw [this];cases y<;>simp only [AV.void,Bool.false_eq_true] at hy
        ·rw [hv.inv_nils];split
         ·exact .base _ _ (.emp none)
         ·exact .base _ _ .lstn
        ·obtain ⟨A,e⟩:=hv.inv_emp;rw [e];split
         ·exact .base _ _ (.emp A)
         ·exact .base _ _ (.lst0 A 0 (fun _=>rfl))
      split at hx
      ·rename_i y1 σ1 y2 σ2 hrun1 hrun2;split at hx
       ·rename_i hvoid;simp only [Bool.and_eq_true] at hvoid;simp only [Option.some.injEq,Prod.mk.injEq] at hx;obtain ⟨rfl,rfl⟩:=hx;obtain ⟨A,cap,rfl,hA⟩:=hc1;cases A with
        | none =>
          have h0:=hA rfl;subst h0;refine fin [.nils] y1 σ1 hrun1 (by simpa using hnp) ⟨by rw [hc0];rfl,fun j v c h1 h2=>?_⟩ hvoid.1;rw [hc0] at h2;cases j with
          | zero=>simp at h1 h2;subst h1;subst h2;exact .base _ _ .nils
          | succ j=>simp at h1
        | some A =>
          refine fin [.ne] y2 σ2 hrun2 (by simpa using hnp) ⟨by rw [hc0];rfl,fun j v c h1 h2=>?_⟩ hvoid.2;rw [hc0] at h2;cases j with
          | zero=>simp at h1 h2;subst h1;subst h2;exact .base _ _ (.ne A cap)
          | succ j=>simp at h1
       ·cases hx
      ·cases hx
     split at hx
     ·rename_i rs σ1 hrun;split at hx
      ·rename_i v1 hf hgive;simp only [Option.some.injEq,Prod.mk.injEq] at hx;obtain ⟨rfl,rfl⟩:=hx;let X:Nat→Prop:=fun r=>r∈rootsL xs;let m1:=m.freeze σ.h X;have hr:=hs.rel;have Rm1:Rel w m1.fz m1 [] w:=by
        refine ⟨Below.refl _ _,?_,fun _ h=>h,fun _ h=>.inl h,fun r p nd hn=>by simp [nodeAt] at hn,fun r p nd hn=>by simp [nodeAt] at hn,fun r p nd r2 p2 nd2 hn=>by simp [nodeAt] at hn⟩;rintro b (hb|⟨r2,p2,nd2,hx,hn2,hi2,rfl⟩)
        ·exact hr.fzlt b hb
        ·exact (hr.nodes r2 p2 nd2 hn2).lt hi2
       have hargs1:VRels w m1.fz (RefR w m1 [] (Lof [])) (treeBL 0 σ.h xs) args.toList :=
        K4 hr (fun v c hi hlt hex _=>by obtain ⟨r,hr⟩:=hex;exact absurd (hlt r hr) (Nat.not_lt_zero _)) hargs (fun r hr=>.inr hr)
       obtain ⟨m2,w2,cs,q1,q2,q3,q4,q5,q6⟩:=hF f F _ [] [] rs σ1 hg hrun (by rw [treeBL_map];simpa using hnp) w m1.fz m1 [] w args hargs1 Rm1 ⟨rfl,by simp,fun l la top x h=>by simp at h⟩;have hbel:Below w.heap.size w w2:=q2.below;let m4:=m2.freeze σ1.h (fun _=>True);have Rm4:Rel w m1.fz m4 [] w2:=q2.freeze _ (fun r p nd hn=>by simp [nodeAt] at hn);have hres4:VRels w2 m4.fz (fun _ _=>False) (treeBL 0 σ1.h rs) cs :=
        K4 q2 (fun v c hi hlt hex _=>by obtain ⟨r,hr⟩:=hex;exact absurd (hlt r hr) (Nat.not_lt_zero _)) q1 (fun r _=>.inr trivial)
       have main:∀(h0:List Ob) (fz3:Nat→Prop),NQ (F.fo && !ss.isEmpty) 0 σ1.h h0 b ss rs=some (v1,hf)→(∀b,m.fz b→fz3 b)→(∀b,fz3 b→b<w2.heap.size)→(∀b,fz3 b→(m.fz b∨Ajo m σ.h X b)∨w.heap.size≤b) →
        HStep m m σ.h h0→h0.length=σ.h.length →
        Rel w0 fz0 { blk:=m.blk,fz:=fz3 } h0 w2→((F.fo && !ss.isEmpty)=false→VRels w2 fz3 (fun _ _=>False) (treeBL 0 σ1.h rs) cs)→((F.fo && !ss.isEmpty)=true→rs.all AV.flats=false→∀b,fz3 b↔m2.fz b) →
        (∀r p nd,nodeAt h0 r p=some nd→isNode nd=true→nodeAt σ.h r p=some nd) →
        ∃c w' m',Sim P w0 fz0 B m' las { σ with h:=hf } a w'∧({ σ with h:=hf }:St).t=σ.t∧Ev m σ.h w m' hf w'∧hf.length=σ.h.length∧VRel w' m'.fz (RefR w' m' hf (Lof las)) v1 c∧XQ P f args w c w':=by
        intro h0 fz3 hgive i1 i2 i3 i4 i5 i6 i7 i8 i9;obtain ⟨m5,r1,r2,r3,r4⟩:=give_sound (m3:={ blk:=m.blk,fz:=fz3 }) (L:=Lof las) q2 q1 hgive i6
         (fun hfo=>⟨(i7 hfo).1,fun j v c h1 h2=>((i7 hfo).2 j v c h1 h2).mono (fun _ _ _ _ h=>h) (fun _ h=>h) (fun _ _ h=>h.elim)⟩)
         (fun hfo hnf=>⟨fun b hb=>(i8 hfo hnf b).2 hb,fun r pp nd _ hn hi=>by
           have hlo:=q2.lo r pp nd hn hi;refine ⟨⟨Nat.le_trans hr.below.size hlo.1,fun hf=>hlo.2 ((i8 hfo hnf _).1 hf)⟩,fun r2 p2 nd2 hn2 hi2 e=>?_⟩;have h1:=(hr.nodes r2 p2 nd2 (i9 _ _ _ hn2 hi2)).lt hi2;have h2:(m.blk r2 p2).1=(m2.blk r pp).1:=e;have h3:=hlo.1;omega⟩)
         (fun _ v c _ hlt hex _=>by obtain ⟨r,hr⟩:=hex;exact absurd (hlt r hr) (Nat.not_lt_zero _))
        have hk:=Lv hbel;have hev0:Ev m σ.h w { blk:=m.blk,fz:=fz3 } h0 w2:=by
         refine ⟨?_,hk.1,hk.2.1,fun b o v hb' hcc=>(World.cell?_of_block (a:=⟨b,o,none⟩) (hbel.block b (hr.fzlt b hb'))).trans hcc,i1,fun b ds hb=>hk.2.2.1 b _ hb rfl,hk.2.2.2⟩;intro r o ho;obtain ⟨o',ho',hst⟩:=i4 r o ho;exact ⟨o',ho',hst⟩
        have hev:=hev0.trans r2;refine ⟨KX cs,w2,m5,⟨hs.tr.ev hev (fun _ _ h=>h),r1,hs.lps.ev' hev (fun l la hla=>?_),hs.dfs.keep hev.dfr,hs.bs.1,Nat.le_trans hs.bs.2 hev.sz⟩,rfl,hev,r3.trans i5,r4,q6⟩;obtain ⟨top,hla⟩:=hla;have hlt:l<σ.lp.length:=by rw [←hs.lps.len];exact List.lt_of_some hla
        obtain ⟨_,_,r,hrr,_⟩:=hs.lps.ok l la top _ hla (List.getElem?_eq_getElem hlt);exact hbel.block la (Array.getElem?_eq_some_iff.1 hrr).1
       have hXfz:∀b,m4.fz b→(m.fz b∨Ajo m σ.h X b)∨w.heap.size≤b:=fun b hb=>Rm4.fzge b hb;have hm2fz:∀b,m2.fz b→(m.fz b∨Ajo m σ.h X b)∨w.heap.size≤b:=fun b hb=>q2.fzge b hb;have hsub2:∀b,m.fz b→m2.fz b:=fun b hb=>q2.fzin b (.inl hb);have hfo4:∀(h0:List Ob),NQ (F.fo && !ss.isEmpty) 0 σ1.h h0 b ss rs=some (v1,hf)→HStep m m σ.h h0→h0.length=σ.h.length→(∀r p nd,nodeAt h0 r p=some nd→isNode nd=true→nodeAt σ.h r p=some nd∧¬X r) →
        ∃c w' m',Sim P w0 fz0 B m' las { σ with h:=hf } a w'∧({ σ with h:=hf }:St).t=σ.t∧Ev m σ.h w m' hf w'∧hf.length=σ.h.length∧VRel w' m'.fz (RefR w' m' hf (Lof las)) v1 c∧XQ P f args w c w':=by
        intro h0 hgive hst hlen hnd;cases hfo:(F.fo && !ss.isEmpty) with
        | false =>
          exact main h0 m4.fz hgive (fun b hb=>.inl (hsub2 b hb)) Rm4.fzlt hXfz hst hlen (hr.back hbel (fun b hb=>.inl (hsub2 b hb)) Rm4.fzlt hXfz hnd) (fun _=>hres4) (fun h _=>by rw [hfo] at h;cases h) (fun r p nd hn hi=>(hnd r p nd hn hi).1)
        | true =>
          exact main h0 m2.fz hgive hsub2 q2.fzlt hm2fz hst hlen (hr.back hbel hsub2 q2.fzlt hm2fz hnd) (fun h=>by rw [hfo] at h;cases h) (fun _ _ b=>Iff.rfl) (fun r p nd hn hi=>(hnd r p nd hn hi).1)
       by_cases hfree:xs.all AV.free=true
       ·have hno:rootsL xs = []:=Lm (fun x hx=>AaQ (List.all_eq_true.1 hfree x hx));rw [hfree,Bool.true_or,if_pos rfl] at hgive;exact hfo4 σ.h hgive (HStep.refl _ _) rfl (fun r p nd hn hi=>⟨hn,by simp [X,hno]⟩)
       ·by_cases hflat:rs.all AV.flats=true
        ·rw [hflat,Bool.or_true,if_pos rfl] at hgive;refine main σ.h m.fz hgive (fun _ h=>h) (fun b hb=>Nat.lt_of_lt_of_le (hr.fzlt b hb) hbel.size) (fun b hb=>.inl (.inl hb)) (HStep.refl _ _) rfl
          (hr.back (X:=fun _=>False) hbel (fun _ h=>h) (fun b hb=>Nat.lt_of_lt_of_le (hr.fzlt b hb) hbel.size) (fun b hb=>.inl (.inl hb)) (fun r p nd hn hi=>⟨hn,id⟩)) (fun _=>⟨hres4.1,fun j v c h1 h2=>?_⟩) (fun _ h=>by rw [hflat] at h;cases h) (fun r p nd hn hi=>hn)
         rw [treeBL_map,List.getElem?_map] at h1;cases hx':rs[j]? with
         | none=>simp [hx'] at h1
         | some x =>
           simp [hx'] at h1;subst h1;exact .base _ _ (RT (U5 (q1.2 j x c hx' h2) (List.all_eq_true.1 hflat x (List.mem_of_getElem? hx'))))
        ·rw [if_neg (by simp only [Bool.not_eq_true] at hfree hflat;simp [hfree,hflat])] at hgive;exact hfo4 _ hgive (JK m σ.h _) (dropRoots_len _ _) (fun r p nd hn hi=>JG hn hi)
      ·cases hx
     ·cases hx
    ·-- shared
     split at hx
     ·rename_i rs σ1 hrun;split at hx
      ·rename_i v1 hf hgive;simp only [Option.some.injEq,Prod.mk.injEq] at hx;obtain ⟨rfl,rfl⟩:=hx;obtain ⟨m1,w1,cs,q1,q2,q3,q4,q5,q6⟩:=hF f F xs σ.h σ.lp rs σ1 hg hrun hnp w0 fz0 m las w args hargs hs.rel hs.lps;have hlen:(σ1.h.take σ.h.length).length=σ.h.length:=by simp [q5]
       have hnode:∀r p nd,nodeAt (σ1.h.take σ.h.length) r p=some nd→r<σ.h.length∧nodeAt σ1.h r p=some nd:=by
        intro r p nd hn;obtain ⟨o,e,hnav⟩:=Ac.1 hn;have hlt:=List.lt_of_some e;rw [hlen] at hlt;rw [List.getElem?_take_of_lt hlt] at e;exact ⟨hlt,Ac.2 ⟨o,e,hnav⟩⟩
       let X:Nat→Prop:=fun r=>σ.h.length≤r;have main:∀(m3:Mem),m3.blk=m1.blk→(∀b,m1.fz b→m3.fz b)→Rel w0 fz0 m3 (σ1.h.take σ.h.length) w1→((F.fo && !ss.isEmpty)=false→VRels w1 m3.fz (RefR w1 m3 (σ1.h.take σ.h.length) (Lof las)) (treeBL σ.h.length σ1.h rs) cs)→((F.fo && !ss.isEmpty)=true→m3.fz=m1.fz) →
        ∃c w' m',Sim P w0 fz0 B m' las { t:=σ.t,h:=hf,lp:=σ1.lp } a w'∧({ t:=σ.t,h:=hf,lp:=σ1.lp }:St).t=σ.t∧Ev m σ.h w m' hf w'∧hf.length=σ.h.length∧VRel w' m'.fz (RefR w' m' hf (Lof las)) v1 c∧XQ P f args w c w':=by
        intro m3 i1 i2 i3 i4 i5;obtain ⟨m5,r1,r2,r3,r4⟩:=give_sound (L:=Lof las) q2 q1 hgive i3 i4
         (fun hfo _=>⟨i2,fun r pp nd hBr hn hi=>by
           have hlo:=q2.lo r pp nd hn hi;refine ⟨⟨hlo.1,by rw [i5 hfo];exact hlo.2⟩,fun r2 p2 nd2 hn2 hi2 e=>?_⟩;obtain ⟨h1,h2⟩:=hnode r2 p2 nd2 hn2;rw [i1] at e;have:=(q2.inj _ _ _ _ _ _ h2 hi2 hn hi e).1;omega⟩)
         (fun _ v c hi hlt hex hr=>RefR.take (m':=m3) i1 hi hlt hex hr)
        have hst0:HStep m m3 σ.h (σ1.h.take σ.h.length):=by
         have:=q4.st.cut σ.h.length;rw [List.take_length] at this;intro r o ho;obtain ⟨o',ho',hst⟩:=this r o ho;refine ⟨o',ho',?_⟩;unfold BQ at hst ⊢;rw [i1];exact hst
        have hev0:Ev m σ.h w m3 (σ1.h.take σ.h.length) w1:=⟨hst0,q4.cel,q4.map,q4.fk,fun b hb=>i2 b (q4.fz b hb),q4.dfr,q4.sz⟩;have hev:=hev0.trans r2;have hl3:Lps P w0 m3 las (σ1.h.take σ.h.length) w1 σ1.lp:=by
         refine ⟨q3.len,q3.nd,fun l la top x h1 h2=>?_⟩;obtain ⟨g1,g0,r,g2,g3⟩:=q3.ok l la top x h1 h2;have hlt:l<σ.lp.length:=by rw [←hs.lps.len];exact List.lt_of_some h1
         obtain ⟨_,k0,_⟩:=hs.lps.ok l la top _ h1 (List.getElem?_eq_getElem hlt);refine ⟨g1,by rw [hlen];exact k0,r,g2,?_⟩;have e1:(σ1.h.take σ.h.length).take top=σ1.h.take top:=by rw [List.take_take,Nat.min_eq_left k0]
         rw [e1];have hev1:Ev m1 (σ1.h.take top) w1 m3 (σ1.h.take top) w1:=by
          refine ⟨?_,(WKeep.refl w1).1,(WKeep.refl w1).2.1,FKeep.refl _ _,i2,fun _ _ h=>h,Nat.le_refl _⟩;intro r o ho;refine ⟨o,ho,?_⟩;have:=BQ.refl m1 r o;unfold BQ at this ⊢;rw [i1];exact this
         exact g3.ev hev1
        exact ⟨KX cs,w1,m5,⟨hs.tr.ev hev (fun _ _ h=>h),r1,hl3.ev' r2 (fun _ _ _=>rfl),hs.dfs.keep hev.dfr,hs.bs.1,Nat.le_trans hs.bs.2 hev.sz⟩,rfl,hev,r3.trans hlen,r4,q6⟩
       cases hfo:(F.fo && !ss.isEmpty) with
       | false =>
         refine main (m1.freeze σ1.h X) rfl (fun b hb=>.inl hb) (q2.freeze X (fun r p nd hn hi=>⟨(hnode r p nd hn).2,by have:=(hnode r p nd hn).1;simp only [X];omega⟩)) (fun _=>?_) (fun h=>by rw [hfo] at h;cases h);exact K4 q2 (fun v c hi hlt hex hr=>RefR.take (m':=m1.freeze σ1.h X) rfl hi hlt hex hr) q1 (fun r _=>by rcases Nat.lt_or_ge r σ.h.length with h|h;exact .inl h;exact .inr h)
       | true =>
         exact main m1 rfl (fun _ h=>h) (q2.congr (fun r p nd hn hi=>(hnode r p nd hn).2)) (fun h=>by rw [hfo] at h;cases h) (fun _=>rfl)
      ·cases hx
     ·cases hx
   ·cases hx
end
end Go.Mw
namespace Go.Mw
open Go.RowKit
section
variable {P:Program}{w0:World}{fz0:Nat→Prop}{B:Nat}{m m':Mem}{w w':World}{las:Las}{h h':List Ob}{σ σ':St}{a:Act}
theorem TR.kill {L:Nat→Nat→Prop}{ts:Array Value}:∀(ks:List Nat) (t:List AV),TR w m h L t ts→TR w m h L (kill ks t) ts:=by
 intro ks;induction ks with
 | nil=>intro t ht;exact ht
 | cons k ks ih =>
   intro t ht;unfold Go.Mw.kill;rw [List.foldl_cons];refine ih _ ⟨by simpa using ht.size,fun i v c hv hc=>?_⟩;by_cases e:k=i
   ·subst e;have hlt:k<t.length:=by have:=List.lt_of_some hv;simpa using this
    rw [List.getElem?_set_self hlt] at hv;cases hv;exact .base _ _ (.undef _)
   ·rw [List.getElem?_set_ne e] at hv;exact ht.rel i v c hv hc
theorem TR.setPs {L:Nat→Nat→Prop}:∀(ps:List Nat) (xs:List AV) (cs:List Value) (t:List AV) (ts:Array Value),VRels w m.fz (RefR w m h L) xs cs→TR w m h L t ts →
 TR w m h L (setPs ps xs t) ((ps.zip cs).foldl (fun ts (p:Nat×Value)=>ts.setIfInBounds p.1 p.2) ts):=by
 intro ps;induction ps with
 | nil=>intro xs cs t ts _ ht;cases xs<;>exact ht
 | cons p ps ih =>
   intro xs cs t ts hv ht
   match xs,cs,hv.1 with
   | [],[],_=>exact ht
   | x::xs,c::cs,hl =>
     simp only [Go.Mw.setPs,List.zip_cons_cons,List.foldl_cons];exact ih xs cs _ _ ⟨by simpa using hl,fun j v c' h1 h2=>hv.2 (j+1) v c' (by simpa using h1) (by simpa using h2)⟩ (ht.put (hv.2 0 x c rfl rfl) p)
theorem N7 (base:Nat)(ks:List Nat):Ev m h w m (freeSites base ks h) w :=
 ⟨JK m h _,(WKeep.refl w).1,(WKeep.refl w).2.1,FKeep.refl _ _,fun _ h=>h,fun _ _ h=>h,Nat.le_refl _⟩
theorem Rel.freeSites (hr:Rel w0 fz0 m h w)(base:Nat)(ks:List Nat):Rel w0 fz0 m (freeSites base ks h) w :=
 hr.congr (fun r p nd hn hi=>(JG hn hi).1)
theorem Ajm (t:Nat):Ev m (h.take t) w m h w:=by
 refine ⟨fun r o ho=>?_,(WKeep.refl w).1,(WKeep.refl w).2.1,FKeep.refl _ _,fun _ h=>h,fun _ _ h=>h,Nat.le_refl _⟩;have hlt:r<t:=by have:=List.lt_of_some ho;simp at this;omega
 rw [List.getElem?_take_of_lt hlt] at ho;exact ⟨o,ho,BQ.refl _ _ _⟩
theorem Lof.mono {las:Las}{l l' la:Nat}(h:Lof (las.take l) l' la):Lof las l' la:=by
 obtain ⟨top,h⟩:=h;have hlt:l'<l:=by have:=List.lt_of_some h;simp at this;omega
 rw [List.getElem?_take_of_lt hlt] at h;exact ⟨top,h⟩
theorem Lps.setRec {lp:List Lp}(hl:Lps P w0 m las h w lp){l la top:Nat}{x x':Lp}{r r':Loop}(h1:las[l]? = some (la,top))(h2:lp[l]? = some x)(h3:w.heap[la]? = some (.loop r))(h4:RecOk P w m (h.take top) (las.take l) x' r') :
 Lps P w0 m las h (w.putObj la (.loop r')) (lp.set l x'):=by
 have hlt:=(Array.getElem?_eq_some_iff.1 h3).1;refine ⟨by simp [hl.len],hl.nd,fun l2 la2 top2 y e1 e2=>?_⟩;have hev:∀t,Ev m (h.take t) w m (h.take t) (w.putObj la (.loop r')):=fun t=>(Nf (m:=m) (h:=h) h3).cut t;by_cases e:l=l2
 ·subst e;rw [h1] at e1;cases e1;rw [List.getElem?_set_self (List.lt_of_some h2)] at e2;cases e2;obtain ⟨g1,g0,_⟩:=hl.ok l la top x h1 h2;exact ⟨g1,g0,r',World.putObj_heap_same hlt,h4.ev (hev top)⟩
 ·rw [List.getElem?_set_ne e] at e2;obtain ⟨g1,g0,r2,g2,g3⟩:=hl.ok l2 la2 top2 y e1 e2;have hne:la2≠la:=by
   intro e3;have e4:(las.map (·.1))[l]? = some la:=by rw [List.getElem?_map,h1];rfl
   have e5:(las.map (·.1))[l2]? = some la:=by rw [List.getElem?_map,e1,←e3];rfl
   have hl1:=List.lt_of_some e4;exact e ((List.getElem?_inj hl1 hl.nd).1 (e4.trans e5.symm))
  exact ⟨g1,g0,r2,by rw [World.putObj_heap_other hne];exact g2,g3.ev (hev top2)⟩
theorem AhG (e:Ex):(Me e).bind jumpOf=jumpOf e:=by cases e<;>rfl
theorem VS (e:Ex):(jumpOf e).isNone=(Me e).isNone:=by cases e<;>rfl
theorem UJ {G:Prg}{n:Nat}(hC:CodeS P (evC G n)):YieldS P (yieldF G (n+1)):=by
 intro l xs σ v σ' hx w0 fz0 B m las a w args la hs hargs hla;obtain ⟨top,hla⟩:=hla;simp only [yieldF] at hx;cases hlp:σ.lp[l]? with
 | none=>simp [hlp] at hx
 | some lp =>
   simp only [hlp] at hx;split at hx
   ·rename_i hc;obtain ⟨hb,hp,hn⟩:=hc;obtain ⟨g1,g0,r,g2,g3⟩:=hs.lps.ok l la top lp hla hlp;obtain ⟨sm,hasg,hbody⟩:=g3.asg;split at hx
    ·rename_i σ1 hev1;split at hx
     ·rename_i lp1 hlp1;split at hx
      ·rename_i hc1;split at hx
       ·rename_i e σ2 hev2;split at hx
        ·rename_i lp2 hlp2;simp only [Option.some.injEq,Prod.mk.injEq] at hx;obtain ⟨rfl,rfl⟩:=hx;have hsz:args.size=r.params.size:=by
          have e1:args.size=xs.length:=by rw [←hargs.1];simp
          have e2:r.params.size=lp.ps.length:=by rw [←g3.ps];simp
          omega
         let ts:Array Value:=(r.params.zip args).foldl (fun tmps (t,a)=>tmps.setIfInBounds t a) r.tmps;have hy:(Instr.yield la args).run P w = .ok (.round la r.fn ts r.assign r.body) w:=run_yield g2 hsz;let b:Frame:={ (default:Frame) with fn:=r.fn,kind:=.normal,roundOf:=some la };have hfr:Frame.round la r.fn ts r.assign r.body .normal=b.atR { tmps:=ts,defers:=[] } [.code r.assign,.beginRound,.code r.body]:=by
          simp [Frame.round,Frame.atR,b]
         have hfev:Ev m σ.h w m (freeSites lp.base lp.ks σ.h) w:=N7 _ _;have htr0:TR w m (freeSites lp.base lp.ks σ.h) (Lof las) (setPs lp.ps xs (kill lp.kt lp.t)) ts:=by
          have t1:TR w m σ.h (Lof las) (kill lp.kt lp.t) r.tmps:=TR.kill _ _ (g3.tr.ev (Ajm top) (fun _ _ h=>h.mono));have t2:=(TR.setPs lp.ps xs args.toList _ _ hargs t1).ev hfev (fun _ _ h=>h);have e1:ts=(lp.ps.zip args.toList).foldl (fun ts (p:Nat×Value)=>ts.setIfInBounds p.1 p.2) r.tmps:=by
           simp only [ts];rw [←Array.foldl_toList,Array.toList_zip,g3.ps]
          rw [e1];exact t2
         have hs0:Sim P w0 fz0 w.heap.size m las { t:=setPs lp.ps xs (kill lp.kt lp.t),h:=freeSites lp.base lp.ks σ.h,lp:=σ.lp } { tmps:=ts,defers:=[] } w :=
          ⟨htr0,hs.rel.freeSites _ _,hs.lps.ev' hfev (fun _ _ _=>rfl),⟨[],rfl,List.nodup_nil,fun D hD=>by cases hD⟩,hs.rel.below.size,Nat.le_refl _⟩
         have hro:XL b las:=fun la' h=>by
          have:la=la':=by simpa [b] using h
          exact ⟨l,top,by rw [←this];exact hla⟩
         obtain ⟨a1,w1,m1,s1,e1,l1,go1⟩:=hC lp.asg lp.base _ .nrm σ1 hev1 sm r.assign hasg w0 fz0 _ m las _ w hs0 b hro;obtain ⟨k1,k0,r1,k2,k3⟩:=s1.lps.ok l la top lp1 hla hlp1;have hst1:r1.state = .ready:=by rw [k3.st,hc1.1,hc1.2];rfl
         have hbr:=run_beginRound (P:=P) k2 hst1;have hev1':=Nf (m:=m1) (h:=σ1.h) (r':={ r1 with state:=.busy }) k2;have hs1:Sim P w0 fz0 w.heap.size m1 las { σ1 with lp:=σ1.lp.set l { lp1 with busy:=true } } a1 (w1.putObj la (.loop { r1 with state:=.busy })):=by
          refine ⟨s1.tr.ev hev1' (fun _ _ h=>h),s1.rel.putRec k2 rfl k1,s1.lps.setRec hla hlp1 k2 ⟨k3.asg,k3.ps,k3.tr,rfl,(fun h=>by cases h),k3.pn⟩,s1.dfs.keep hev1'.dfr,s1.bs.1,Nat.le_trans s1.bs.2 hev1'.sz⟩
         obtain ⟨a2,w2,m2,s2,e2,l2,go2⟩:=hC lp.body lp.base _ e σ2 hev2 sm r.body hbody w0 fz0 _ m1 las a1 _ hs1 b hro;obtain ⟨q1,q0,r2,q2,q3⟩:=s2.lps.ok l la top lp2 hla hlp2;have her:=run_endRound (P:=P) (jumpOf e) q2;have hev3:=Nf (m:=m2) (h:=σ2.h) (r':={ r2 with state:=if (jumpOf e).isNone then .ready else .done,pending:=jumpOf e }) q2;have hev:Ev m σ.h w m2 σ2.h _:=hfev.trans (e1.trans (hev1'.trans (e2.trans hev3)));refine ⟨.bool (jumpOf e).isNone,_,m2,⟨hs.tr.ev hev (fun _ _ h=>h),s2.rel.putRec q2 rfl q1,s2.lps.setRec hla hlp2 q2 ⟨q3.asg,q3.ps,q3.tr,?_,fun _=>(AhG e).symm,?_⟩,hs.dfs.keep hev.dfr,hs.bs.1,Nat.le_trans hs.bs.2 hev.sz⟩,rfl,hev,?_,?_,r.fn,ts,r.assign,r.body,hy,fun c0 cs=>?_⟩
         ·simp [VS]
         ·cases e<;>simp [Me]
         ·exact l2.trans (l1.trans (dropRoots_len _ _))
         ·rw [VS];exact .base _ _ (.bool _)
         ·have g:=go1 [.beginRound,.code r.body] (c0::cs);rw [←hfr] at g;refine Steps.trans g (.head (stepR_beginRound rfl hbr) ?_);have g2:=go2 [] (c0::cs);cases e with
          | nrm=>exact Steps.trans g2 (.one (stepR_round_end rfl rfl her))
          | ret =>
            obtain ⟨kk,g2⟩:=g2;exact g2.trans (.one (stepR_round_ret rfl rfl her))
          | ext id =>
            obtain ⟨kk,hx,g2⟩:=g2;exact g2.trans (.one (stepR_round_exit rfl rfl (by rw [hx];rfl) her))
        ·cases hx
       ·cases hx
      ·cases hx
     ·cases hx
    ·cases hx
   ·cases hx
end
end Go.Mw
namespace Go.Mw
open Go.RowKit
section
variable {P:Program}{w0:World}{fz0:Nat→Prop}{B:Nat}{m m':Mem}{w w':World}{las:Las}{h h':List Ob}{σ σ':St}{a:Act}
def AfG (P:Program)(G:Prg)(f:Ins→Nat→St→Option (AV×St)):Prop :=
 ∀(sm:List Nat) (ops:Array Oper) (rs:List Rop) (b:Nat) (σ σ':St) (fs:List (Option (List Nat))),K5 P sm ops ops.toList=some rs→QS ops rs=true→drwE G f rs b σ=some (σ',fs) →
  (Lc ops rs).all (fun p=>K8 (fs.getD p.1 none) (fs.getD p.2 none)||Aiz ((Wf f rs b σ).getD p.1 .no) ((Wf f rs b σ).getD p.2 .no))=true→∀(mixed:Bool) (t:Nat),
  ∃rl,All2 (fun j r=>∃o,ops[j]? = some o∧PV P sm ops o=some r) (Region.schedule mixed ops t) rl∧J8 f rl b σ=some σ'
theorem Aad {sm:List Nat}{ops:Array Oper}:∀(l:List Oper) (k:Nat) (rs:List Rop),(∀j o,l[j]? = some o→ops[k+j]? = some o)→K5 P sm ops l=some rs→All2 (fun j r=>∃o,ops[j]? = some o∧PV P sm ops o=some r) (List.range' k l.length) rs:=by
 intro l;induction l with
 | nil=>intro k rs _ h;simp [K5] at h;subst h;exact .nil
 | cons o l ih =>
   intro k rs hk h;simp only [K5] at h;cases h1:PV P sm ops o with
   | none=>simp [h1] at h
   | some r =>
     cases h2:K5 P sm ops l with
     | none=>simp [h1,h2] at h
     | some rs' =>
       simp [h1,h2] at h;subst h;rw [List.length_cons,List.range'_succ];exact .cons ⟨o,by have:=hk 0 o rfl;simpa using this,h1⟩ (ih (k+1) rs' (fun j o' hj=>by have:=hk (j+1) o' (by simpa using hj);rw [←this];congr 1;omega) h2)
theorem Goes.step {M M1:Machine}{fr:Frame}{k:List Item}{cs:List Frame}{a':Act}{w':World}{e:Ex}(hs:Steps P M M1)(hg:Goes P M1 fr k cs a' w' e):Goes P M fr k cs a' w' e:=by
 cases e with
 | nrm=>exact hs.trans hg
 | ret=>obtain ⟨k0,hg⟩:=hg;exact ⟨k0,hs.trans hg⟩
 | ext id=>obtain ⟨k0,h1,hg⟩:=hg;exact ⟨k0,h1,hs.trans hg⟩
theorem Goes.pass {M:Machine}{fr:Frame}{x:Item}{k:List Item}{cs:List Frame}{a':Act}{w':World}{e:Ex}(he:e≠.nrm)(hx:∀id,e = .ext id→exitTo id (x::k)=exitTo id k∧∀k',exitTo id (x::k')=exitTo id k')(hg:Goes P M fr (x::k) cs a' w' e):Goes P M fr k cs a' w' e:=by
 cases e with
 | nrm=>exact absurd rfl he
 | ret=>exact hg
 | ext id =>
   obtain ⟨k0,h1,hg⟩:=hg;refine ⟨k0++[x],fun k'=>?_,by simpa using hg⟩;rw [List.append_assoc,h1];exact (hx id rfl).2 k'
def LoopS (P:Program)(f:C→Nat→St→Option (Ex×St)):Prop :=
 ∀(c:C) (b:Nat) (σ:St) (e:Ex) (σ':St),f c b σ=some (e,σ')→∀(sm:List Nat) (c1:Code),compC P sm (.loop c1)=some (bare c) →
  ∀w0 fz0 B m las a w,Sim P w0 fz0 B m las σ a w→∀(fr:Frame),XL fr las→∃a' w' m',Sim P w0 fz0 B m' las σ' a' w'∧Ev m σ.h w m' σ'.h w'∧σ'.h.length=σ.h.length ∧
   ∀(k:List Item) (cs:List Frame),Goes P (lone (fr.atR a (.code c1::.inLoop c1::k)) cs w) fr k cs a' w' e
theorem YE (hs:Sim P w0 fz0 B m las σ a w)(t:Nat):∃m',Sim P w0 fz0 B m' las (Agn t σ) a w∧Ev m σ.h w m' (Agn t σ).h w∧(Agn t σ).h.length=σ.h.length:=by
 unfold Agn;split
 ·rename_i v hv;have hst:HStep m (m.freeze σ.h (fun r=>r∈rootsOf v)) σ.h (At σ.h (rootsOf v)):=JK m σ.h _;have hev:Ev m σ.h w (m.freeze σ.h (fun r=>r∈rootsOf v)) (At σ.h (rootsOf v)) w:=Ev.of_keep hst (WKeep.refl w) (FKeep.refl w _) (fun b hb=>.inl hb);refine ⟨m.freeze σ.h (fun r=>r∈rootsOf v),⟨?_,hs.rel.freeze _ (fun r p nd hn hi=>JG hn hi),hs.lps.ev' hev (fun _ _ _=>rfl),hs.dfs,hs.bs⟩,hev,dropRoots_len _ _⟩;have ht:=hs.tr.ev hev (fun _ _ h=>h);refine ⟨by rw [List.length_set];exact ht.size,fun i x c hx hc=>?_⟩;by_cases e:t=i
  ·subst e;rw [List.getElem?_set_self (List.lt_of_some hv)] at hx;cases hx;exact UT hs.rel (fun v c hi hlt hex _=>by obtain ⟨r,hr⟩:=hex;exact absurd (hlt r hr) (Nat.not_lt_zero _)) (hs.tr.rel t v c hv hc) (fun r hr=>.inr hr)
  ·rw [List.getElem?_set_ne e] at hx;exact ht.rel i x c hx hc
 ·exact ⟨m,hs,Ev.refl _ _ _,rfl⟩
theorem AcY (hs:Sim P w0 fz0 B m las σ a w)(b t s:Nat):∃m',Sim P w0 fz0 B m' las (mv1 b t s σ) a w∧Ev m σ.h w m' (mv1 b t s σ).h w∧(mv1 b t s σ).h.length=σ.h.length:=by
 have triv:∃m',Sim P w0 fz0 B m' las σ a w∧Ev m σ.h w m' σ.h w∧σ.h.length=σ.h.length:=⟨m,hs,Ev.refl _ _ _,rfl⟩;unfold mv1;split
 ·rename_i r st ss len hv;split
  ·rename_i es xs o1 o hnd ho1 ho;split
   ·rename_i hg;split
    ·rename_i hc;obtain ⟨hne,hl⟩:=hc;subst hl;have hrl:r<σ.h.length:=List.lt_of_some ho1;have hTl:b+s<σ.h.length:=List.lt_of_some ho;have hnA:nodeAt σ.h r []=some (.own es xs):=CK hnd;have hst:HStep m { blk:=takeBlk m r [] es 0 (b+s),fz:=m.fz } σ.h ((σ.h.set r { o1 with c:=.gone }).set (b+s) { st:=o.st+1,ss:=0,c:=.own es xs }):=by
      intro r2 o2 ho2;by_cases e1:r2=b+s
      ·subst e1;rw [ho] at ho2;cases ho2;exact ⟨_,by rw [List.getElem?_set_self (by simpa using hTl)],.inl (Nat.lt_succ_self _)⟩
      ·by_cases e2:r2=r
       ·subst e2;rw [ho1] at ho2;cases ho2;refine ⟨_,by rw [List.getElem?_set_ne (fun h=>e1 h.symm),List.getElem?_set_self hrl],BQ.gone (p:=[]) (c:=.gone) (by simp [upd]) (fun q=>by show takeBlk _ _ _ _ _ _ _ _=_;unfold takeBlk;rw [if_neg e1])⟩
       ·exact ⟨o2,by rw [List.getElem?_set_ne (fun h=>e1 h.symm),List.getElem?_set_ne (fun h=>e2 h.symm)];exact ho2,BQ.same (fun q nd _ _=>by show takeBlk _ _ _ _ _ _ _ _=_;unfold takeBlk;rw [if_neg e1])⟩
     have hev:Ev m σ.h w { blk:=takeBlk m r [] es 0 (b+s),fz:=m.fz } ((σ.h.set r { o1 with c:=.gone }).set (b+s) { st:=o.st+1,ss:=0,c:=.own es xs }) w:=Ev.of_keep hst (WKeep.refl w) (FKeep.refl w _) (fun _ h=>h);have hrel:Rel w0 fz0 { blk:=takeBlk m r [] es 0 (b+s),fz:=m.fz } ((σ.h.set r { o1 with c:=.gone }).set (b+s) { st:=o.st+1,ss:=0,c:=.own es xs }) w:=by
      refine hs.rel.take hnA 0 xs.length (b+s) (fun h=>hne h.symm) (fun o' ho'=>by rw [ho] at ho';cases ho';rw [hg];rfl) ⟨_,by rw [List.getElem?_set_self (by simpa using hTl)],by simp⟩ ⟨o1,_,ho1,by rw [List.getElem?_set_ne (fun h=>hne h.symm),List.getElem?_set_self hrl],by simp [upd]⟩ (fun r2 o2 e1 e2 e3 hi=>?_);rw [List.getElem?_set_ne (fun h=>e2 h.symm),List.getElem?_set_ne (fun h=>e1 h.symm)] at e3;exact ⟨o2,e3,rfl⟩
     refine ⟨{ blk:=takeBlk m r [] es 0 (b+s),fz:=m.fz },⟨?_,hrel,hs.lps.ev' hev (fun _ _ _=>rfl),hs.dfs,hs.bs⟩,hev,by simp⟩;have ht:=hs.tr.ev hev (fun _ _ h=>h);refine ⟨by rw [List.length_set];exact ht.size,fun i x c hx hc=>?_⟩;by_cases e:t=i
     ·subst e;rw [List.getElem?_set_self (List.lt_of_some hv)] at hx;cases hx;obtain ⟨ob0,b1,b2,b3,b4⟩:=(hs.tr.rel t _ c hv hc).inv_ref rfl;obtain ⟨g1,A,cap,g2,g3,g4⟩:=b4 _ _ hnd;refine .ref _ _ rfl ⟨_,by rw [List.getElem?_set_self (by simpa using hTl)],Nat.le_refl _,fun _ h=>absurd rfl h,fun es' xs' hn'=>?_⟩;have:some (AV.own es' xs')=some (AV.own es xs):=by
       rw [←hn'];simp [node,List.getElem?_set_self (show b+s<(σ.h.set r { o1 with c:=.gone }).length by simpa using hTl),nav]
      cases this;refine ⟨by omega,A,cap,g2,g3,g4.imp id (fun ⟨h1,h2⟩=>?_)⟩;have hT:takeBlk m r [] es 0 (b+s) (b+s) []=((m.blk r []).1,(m.blk r []).2+0*es):=by simp [takeBlk]
      simp only [hT];refine ⟨by rw [h1];simp,?_⟩;obtain ⟨arr,ty,k1,k2⟩:=h2;exact ⟨arr,ty,k1,by simpa using k2⟩
     ·rw [List.getElem?_set_ne e] at hx;exact ht.rel i x c hx hc
    ·exact triv
   ·exact triv
  ·exact triv
 ·exact triv
theorem Sf {G:Prg}{n:Nat}(hC:CodeS P (evC G n))(hL:LoopS P (evC G n)):LoopS P (evC G (n+1)):=by
 intro c b σ e σ' hx sm c1 hcc w0 fz0 B m las a w hs fr hfr;by_cases hz:∃t c0,c = .frzt t c0
 ·obtain ⟨t,c0,rfl⟩:=hz;simp only [evC] at hx;simp only [bare] at hcc;obtain ⟨m1,s1,e1,l1⟩:=YE hs t;obtain ⟨a2,w2,m2,s2,e2,l2,go⟩:=hL c0 b _ e σ' hx sm c1 hcc w0 fz0 B m1 las a w s1 fr hfr;exact ⟨a2,w2,m2,s2,e1.trans e2,l2.trans l1,go⟩
 by_cases hy:∃t s c0,c = .mvt t s c0
 ·obtain ⟨t,s,c0,rfl⟩:=hy;simp only [evC] at hx;simp only [bare] at hcc;obtain ⟨m1,s1,e1,l1⟩:=AcY hs b t s;obtain ⟨a2,w2,m2,s2,e2,l2,go⟩:=hL c0 b _ e σ' hx sm c1 hcc w0 fz0 B m1 las a w s1 fr hfr;exact ⟨a2,w2,m2,s2,e1.trans e2,l2.trans l1,go⟩
 simp only [compC] at hcc;cases h1:compC P sm c1 with
 | none=>simp [h1] at hcc
 | some y =>
   simp only [h1,Option.map_some,Option.some.injEq] at hcc;cases c<;>(first|exact absurd ⟨_,_,rfl⟩ hz|exact absurd ⟨_,_,_,rfl⟩ hy|skip)<;>simp only [bare,reduceCtorEq] at hcc;rename_i kt ks c;simp only [C.loop.injEq,true_and] at hcc;subst hcc;simp only [evC] at hx;have hfev:Ev m σ.h w m (freeSites b ks σ.h) w:=N7 _ _;have hs0:Sim P w0 fz0 B m las { σ with t:=kill kt σ.t,h:=freeSites b ks σ.h } a w :=
    ⟨(TR.kill _ _ hs.tr).ev hfev (fun _ _ h=>h),hs.rel.freeSites _ _,hs.lps.ev' hfev (fun _ _ _=>rfl),hs.dfs,hs.bs⟩
   have hl0:(freeSites b ks σ.h).length=σ.h.length:=dropRoots_len _ _;split at hx
   ·rename_i σ1 hev;obtain ⟨a1,w1,m1,s1,e1,l1,go1⟩:=hC _ b _ _ σ1 hev sm c1 h1 w0 fz0 B m las a w hs0 fr hfr;obtain ⟨a2,w2,m2,s2,e2,l2,go2⟩:=hL _ b σ1 e σ' hx sm c1 (by simp [compC,h1,bare]) w0 fz0 B m1 las a1 w1 s1 fr hfr;exact ⟨a2,w2,m2,s2,hfev.trans (e1.trans e2),l2.trans (l1.trans hl0),fun k cs=>Goes.step (Steps.trans (go1 (.inLoop c1::k) cs) (.one stepR_inLoop)) (go2 k cs)⟩
   ·rename_i hne;obtain ⟨a1,w1,m1,s1,e1,l1,go1⟩:=hC _ b _ e σ' hx sm c1 h1 w0 fz0 B m las a w hs0 fr hfr;have hen:e≠.nrm:=fun he=>by subst he;exact hne _ hx
    exact ⟨a1,w1,m1,s1,hfev.trans e1,l1.trans hl0,fun k cs=>Goes.pass (x:=.inLoop c1) hen (fun id _=>⟨rfl,fun _=>rfl⟩) (go1 (.inLoop c1::k) cs)⟩
theorem Ac8 {G:Prg}(hG:AiE P G){n:Nat}(hO:OpS P (evO G n))(hD:AfG P G (evO G n))(hC:CodeS P (evC G n))(hL:LoopS P (evC G n))(hK:CallS P (callF G n)):CodeS P (evC G (n+1)):=by
 intro c b σ e σ' hx sm code hcc w0 fz0 B m las a w hs fr hfr;by_cases hz:∃t c0,c = .frzt t c0
 ·obtain ⟨t,c0,rfl⟩:=hz;simp only [evC] at hx;simp only [bare] at hcc;obtain ⟨m1,s1,e1,l1⟩:=YE hs t;obtain ⟨a2,w2,m2,s2,e2,l2,go⟩:=hC c0 b _ e σ' hx sm code hcc w0 fz0 B m1 las a w s1 fr hfr;exact ⟨a2,w2,m2,s2,e1.trans e2,l2.trans l1,go⟩
 by_cases hy:∃t s c0,c = .mvt t s c0
 ·obtain ⟨t,s,c0,rfl⟩:=hy;simp only [evC] at hx;simp only [bare] at hcc;obtain ⟨m1,s1,e1,l1⟩:=AcY hs b t s;obtain ⟨a2,w2,m2,s2,e2,l2,go⟩:=hC c0 b _ e σ' hx sm code hcc w0 fz0 B m1 las a w s1 fr hfr;exact ⟨a2,w2,m2,s2,e1.trans e2,l2.trans l1,go⟩
 cases code with
 | skip =>
   simp only [compC,Option.some.injEq] at hcc;cases c<;>(first|exact absurd ⟨_,_,rfl⟩ hz|exact absurd ⟨_,_,_,rfl⟩ hy|skip)<;>simp only [bare,reduceCtorEq] at hcc;simp only [evC,Option.some.injEq,Prod.mk.injEq] at hx;obtain ⟨rfl,rfl⟩:=hx;exact ⟨a,w,m,hs,Ev.refl _ _ _,rfl,fun k cs=>.one stepR_skip⟩
 | region id ops draw =>
   simp only [compC] at hcc;split at hcc
   ·rename_i rs hrs;cases draw with
    | false =>
      simp only [Bool.false_eq_true,if_false,Option.some.injEq] at hcc;cases c<;>(first|exact absurd ⟨_,_,rfl⟩ hz|exact absurd ⟨_,_,_,rfl⟩ hy|skip)<;>simp only [bare,reduceCtorEq] at hcc;simp only [C.reg.injEq] at hcc;subst hcc;simp only [evC] at hx;split at hx
      ·rename_i σ1 hops;simp only [Option.some.injEq,Prod.mk.injEq] at hx;obtain ⟨rfl,rfl⟩:=hx;have hall:=Aad (P:=P) (sm:=sm) (ops:=ops) ops.toList 0 rs (fun j o hj=>by rw [Nat.zero_add,←Array.getElem?_toList];exact hj) hrs;rw [Array.length_toList,←List.range_eq_range'] at hall;obtain ⟨a1,w1,m1,s1,e1,l1,go⟩:=Sb hO _ _ _ _ _ _ _ hall hops hs;exact ⟨a1,w1,m1,s1,e1,l1,fun k cs=>.head stepR_region (go fr k cs)⟩
      ·cases hx
    | true =>
      simp only [if_true] at hcc;split at hcc
      ·rename_i hok;simp only [Option.some.injEq] at hcc;have fin:∀σ1 fs,drwE G (evO G n) rs b σ=some (σ1,fs)→(Lc ops rs).all (fun p=>K8 (fs.getD p.1 none) (fs.getD p.2 none)||Aiz ((Wf (evO G n) rs b σ).getD p.1 .no) ((Wf (evO G n) rs b σ).getD p.2 .no))=true →
        ∃a' w' m',Sim P w0 fz0 B m' las σ1 a' w'∧Ev m σ.h w m' σ1.h w'∧σ1.h.length=σ.h.length∧∀(k:List Item) (cs:List Frame),Goes P (lone (fr.atR a (.code (.region id ops true)::k)) cs w) fr k cs a' w' .nrm:=by
        intro σ1 fs hops hap;obtain ⟨rl,hall,hrun⟩:=hD sm ops rs b σ σ1 fs hrs hok hops hap (P.follows .mixedOrders) (w.tape w.drawn (.order fr.fn id));have hdev:Ev m σ.h w m σ.h { w with drawn:=w.drawn+1 }:=⟨HStep.refl _ _,(WKeep.refl w).1,(WKeep.refl w).2.1,fun _ _ _ _ h=>h,fun _ h=>h,fun _ _ h=>h,Nat.le_refl _⟩;have hs1:Sim P w0 fz0 B m las σ a { w with drawn:=w.drawn+1 }:=by
         refine ⟨hs.tr.ev hdev (fun _ _ h=>h),hs.rel.heap rfl ?_,hs.lps.ev' hdev (fun _ _ _=>rfl),hs.dfs,hs.bs⟩;exact hs.rel.below.trans ⟨rfl,rfl,rfl,Nat.le_refl _,fun _ _=>rfl⟩
        obtain ⟨a1,w1,m1,s1,e1,l1,go⟩:=Sb hO _ _ _ _ _ _ _ hall hrun hs1;exact ⟨a1,w1,m1,s1,hdev.trans e1,l1,fun k cs=>.head stepR_region_draw (go fr k cs)⟩
       cases c<;>(first|exact absurd ⟨_,_,rfl⟩ hz|exact absurd ⟨_,_,_,rfl⟩ hy|skip)<;>simp only [bare,reduceCtorEq] at hcc
       all_goals
        simp only [C.drw.injEq] at hcc;obtain ⟨rfl,rfl⟩:=hcc;simp only [evC] at hx;split at hx
        ·rename_i σ1 fs hops;split at hx
         ·rename_i hap;simp only [Option.some.injEq,Prod.mk.injEq] at hx;obtain ⟨rfl,rfl⟩:=hx;refine fin _ _ hops ?_
          first
           | exact hap
           | exact List.all_eq_true.2 (fun p hp=>by rw [Bool.or_eq_true];exact .inl (List.all_eq_true.1 hap p hp))
         ·cases hx
        ·cases hx
      ·cases hcc
   ·cases hcc
 | seq c1 c2 =>
   simp only [compC] at hcc;split at hcc
   ·rename_i x y h1 h2;simp only [Option.some.injEq] at hcc;cases c<;>(first|exact absurd ⟨_,_,rfl⟩ hz|exact absurd ⟨_,_,_,rfl⟩ hy|skip)<;>simp only [bare,reduceCtorEq] at hcc;simp only [C.seq.injEq] at hcc;obtain ⟨rfl,rfl⟩:=hcc;simp only [evC] at hx;split at hx
    ·rename_i σ1 hev;obtain ⟨a1,w1,m1,s1,e1,l1,go1⟩:=hC _ b σ .nrm σ1 hev sm c1 h1 w0 fz0 B m las a w hs fr hfr;obtain ⟨a2,w2,m2,s2,e2,l2,go2⟩:=hC _ b σ1 e σ' hx sm c2 h2 w0 fz0 B m1 las a1 w1 s1 fr hfr;refine ⟨a2,w2,m2,s2,e1.trans e2,l2.trans l1,fun k cs=>?_⟩;exact Goes.step (.head stepR_seq (go1 (.code c2::k) cs)) (go2 k cs)
    ·rename_i hne;obtain ⟨a1,w1,m1,s1,e1,l1,go1⟩:=hC _ b σ e σ' hx sm c1 h1 w0 fz0 B m las a w hs fr hfr;have hen:e≠.nrm:=fun he=>by subst he;exact hne _ hx
     refine ⟨a1,w1,m1,s1,e1,l1,fun k cs=>?_⟩;exact Goes.pass hen (fun id _=>⟨rfl,fun _=>rfl⟩) (Goes.step (.one stepR_seq) (go1 (.code c2::k) cs))
   ·cases hcc
 | cond x c1 c2 =>
   simp only [compC] at hcc;split at hcc
   ·rename_i x' y1 y2 h0 h1 h2;simp only [Option.some.injEq] at hcc;cases c<;>(first|exact absurd ⟨_,_,rfl⟩ hz|exact absurd ⟨_,_,_,rfl⟩ hy|skip)<;>simp only [bare,reduceCtorEq] at hcc;simp only [C.cond.injEq] at hcc;obtain ⟨rfl,rfl,rfl⟩:=hcc;have hv:=hs.tr.get (a:=a) h0;simp only [evC] at hx;split at hx
    ·rename_i hg;rw [hg] at hv;obtain ⟨a1,w1,m1,s1,e1,l1,go1⟩:=hC _ b σ e σ' hx sm c1 h1 w0 fz0 B m las a w hs fr hfr;exact ⟨a1,w1,m1,s1,e1,l1,fun k cs=>Goes.step (.one (stepR_cond (t:=true) hv.inv_bool)) (go1 k cs)⟩
    ·rename_i hg;rw [hg] at hv;obtain ⟨a1,w1,m1,s1,e1,l1,go1⟩:=hC _ b σ e σ' hx sm c2 h2 w0 fz0 B m las a w hs fr hfr;exact ⟨a1,w1,m1,s1,e1,l1,fun k cs=>Goes.step (.one (stepR_cond (t:=false) hv.inv_bool)) (go1 k cs)⟩
    ·cases hx
   ·cases hcc
 | block id c1 =>
   simp only [compC] at hcc;cases h1:compC P sm c1 with
   | none=>simp [h1] at hcc
   | some y =>
     simp only [h1,Option.map_some,Option.some.injEq] at hcc;cases c<;>(first|exact absurd ⟨_,_,rfl⟩ hz|exact absurd ⟨_,_,_,rfl⟩ hy|skip)<;>simp only [bare,reduceCtorEq] at hcc;simp only [C.blk.injEq] at hcc;obtain ⟨rfl,rfl⟩:=hcc;simp only [evC] at hx;split at hx
     ·rename_i i σ1 hev;obtain ⟨a1,w1,m1,s1,e1,l1,go1⟩:=hC _ b σ _ σ1 hev sm c1 h1 w0 fz0 B m las a w hs fr hfr;split at hx
      ·rename_i hid;subst hid;simp only [Option.some.injEq,Prod.mk.injEq] at hx;obtain ⟨rfl,rfl⟩:=hx;refine ⟨a1,w1,m1,s1,e1,l1,fun k cs=>?_⟩;obtain ⟨k0,g1,g2⟩:=go1 (.inBlock i::k) cs;exact .head stepR_block (g2.trans (.one (stepR_exit (by rw [g1];simp [exitTo]))))
      ·rename_i hid;simp only [Option.some.injEq,Prod.mk.injEq] at hx;obtain ⟨rfl,rfl⟩:=hx;refine ⟨a1,w1,m1,s1,e1,l1,fun k cs=>?_⟩;have hne:(id==i)=false:=by simpa using fun h=>hid h.symm
       exact Goes.pass (x:=.inBlock id) (by simp) (fun id' he=>by cases he;exact ⟨by simp [exitTo,hne],fun k'=>by simp [exitTo,hne]⟩) (Goes.step (.one stepR_block) (go1 (.inBlock id::k) cs))
     ·rename_i hne;obtain ⟨a1,w1,m1,s1,e1,l1,go1⟩:=hC _ b σ e σ' hx sm c1 h1 w0 fz0 B m las a w hs fr hfr;refine ⟨a1,w1,m1,s1,e1,l1,fun k cs=>?_⟩;cases e with
      | nrm=>exact .head stepR_block (Steps.trans (go1 (.inBlock id::k) cs) (.one stepR_inBlock))
      | ret=>exact Goes.pass (x:=.inBlock id) (by simp) (fun id' he=>by cases he) (Goes.step (.one stepR_block) (go1 (.inBlock id::k) cs))
      | ext i=>exact absurd hx (hne i _)
 | loop c1 =>
   obtain ⟨a1,w1,m1,s1,e1,l1,go1⟩:=Sf hC hL c b σ e σ' hx sm c1 hcc w0 fz0 B m las a w hs fr hfr;exact ⟨a1,w1,m1,s1,e1,l1,fun k cs=>Goes.step (.one stepR_loop) (go1 k cs)⟩
 | exit id =>
   simp only [compC,Option.some.injEq] at hcc;cases c<;>(first|exact absurd ⟨_,_,rfl⟩ hz|exact absurd ⟨_,_,_,rfl⟩ hy|skip)<;>simp only [bare,reduceCtorEq] at hcc;simp only [C.exit.injEq] at hcc;subst hcc;simp only [evC,Option.some.injEq,Prod.mk.injEq] at hx;obtain ⟨rfl,rfl⟩:=hx;exact ⟨a,w,m,hs,Ev.refl _ _ _,rfl,fun k cs=>⟨[],fun _=>rfl,.refl _ _⟩⟩
 | ret =>
   simp only [compC,Option.some.injEq] at hcc;cases c<;>(first|exact absurd ⟨_,_,rfl⟩ hz|exact absurd ⟨_,_,_,rfl⟩ hy|skip)<;>simp only [bare,reduceCtorEq] at hcc;simp only [evC,Option.some.injEq,Prod.mk.injEq] at hx;obtain ⟨rfl,rfl⟩:=hx;exact ⟨a,w,m,hs,Ev.refl _ _ _,rfl,fun k cs=>⟨k,.refl _ _⟩⟩
 | rangeFunc f ps asg body =>
   cases f with
   | tmp t =>
     simp only [compC] at hcc;split at hcc
     ·rename_i t' y1 y2 e0 h1 h2;cases e0;simp only [Option.some.injEq] at hcc;cases c<;>(first|exact absurd ⟨_,_,rfl⟩ hz|exact absurd ⟨_,_,_,rfl⟩ hy|skip)<;>simp only [bare,reduceCtorEq] at hcc;rename_i f' ps' kt ks ca cb;simp only [C.rngf.injEq,true_and] at hcc;obtain ⟨rfl,rfl,rfl,rfl⟩:=hcc;have hv:=hs.tr.get (a:=a) (x:=.tmp t) (y:=.t t) rfl;simp only [evC] at hx;split at hx
      ·rename_i g cps hg;rw [hg] at hv;obtain ⟨vs,ef,hcps⟩:=inv_fn hv;split at hx
       ·rename_i v0 σ1 hcall;obtain ⟨F,hF⟩:=callF_some hcall;obtain ⟨sm',hcF⟩:=hG g F hF;obtain ⟨fn,code,hfn,hbd,hnm,_⟩:=compF_some hcF;split at hx
        ·rename_i lp1 hlp1;split at hx
         ·cases hx
         ·rename_i hbusy;simp only [Option.some.injEq,Prod.mk.injEq] at hx;obtain ⟨rfl,rfl⟩:=hx;let x:Lp:={ base:=b,t:=σ.t,ps:=ps.toList,kt,ks,asg:=ca,body:=cb,pend:=none,busy:=false };have enter:∃(la:Nat) (mk:List Deferred) (w1:World) (r:Loop),(Instr.enterLoop fr.fn a.tmps ps asg body fr.roundOf).run P w = .ok (la,mk) w1∧w.heap.size≤la∧w1.heap[la]? = some (.loop r)∧r.state = .ready∧r.pending=none∧r.tmps=a.tmps∧r.params=ps∧r.assign=asg∧r.body=body ∧
           Below w.heap.size w w1∧Rel w0 fz0 m σ.h w1∧Dfs B w1 (mk++a.defers):=by
           cases hro:fr.roundOf with
           | none =>
             refine ⟨_,_,_,_,run_enterLoop_outer fr.fn a.tmps ps asg body,Nat.le_succ _,by have:=World.alloc_heap_new (w.alloc (.deferred (some []))) (.loop { state:=.ready,pending:=none,fn:=fr.fn,tmps:=a.tmps,params:=ps,assign:=asg,body:=body,defers:=w.heap.size });rwa [World.size_alloc] at this,rfl,rfl,rfl,rfl,rfl,rfl,?_,(hs.rel.alloc _).alloc _,?_⟩
             ·exact ((Below.refl _ w).alloc (Nat.le_refl _) _).alloc (by simp) _
             ·obtain ⟨Ds,d1,d2,d3⟩:=hs.dfs;refine ⟨w.heap.size::Ds,by rw [d1];rfl,List.nodup_cons.2 ⟨fun hm=>?_,d2⟩,fun D hD=>?_⟩
              ·have:=(Array.getElem?_eq_some_iff.1 (d3 _ hm).2).1;omega
              ·rcases List.mem_cons.1 hD with rfl|hD
               ·exact ⟨hs.bs.2,(Below.heap_alloc _ _ _ (by simp)).trans (World.alloc_heap_new w _)⟩
               ·have hlt:=(Array.getElem?_eq_some_iff.1 (d3 D hD).2).1;exact ⟨(d3 D hD).1,by rw [Below.heap_alloc _ _ _ (by simp;omega),Below.heap_alloc _ _ _ hlt];exact (d3 D hD).2⟩
           | some l0 =>
             obtain ⟨l',top',hl'⟩:=hfr l0 hro;have hlt':l'<σ.lp.length:=by rw [←hs.lps.len];exact List.lt_of_some hl'
             obtain ⟨_,_,r0,hr0,_⟩:=hs.lps.ok l' l0 top' _ hl' (List.getElem?_eq_getElem hlt');refine ⟨_,_,_,_,run_enterLoop_inner hr0 fr.fn a.tmps ps asg body,Nat.le_refl _,World.alloc_heap_new w _,rfl,rfl,rfl,rfl,rfl,rfl,(Below.refl _ w).alloc (Nat.le_refl _) _,hs.rel.alloc _,?_⟩;exact hs.dfs.keep (fun b ds hb=>by rw [Below.heap_alloc _ _ _ (Array.getElem?_eq_some_iff.1 hb).1];exact hb)
          obtain ⟨la,mk,w1,r,hent,hla,hrec,hst,hpe,htm,hps,has,hbo,hbel,hrel1,hdf1⟩:=enter;have hk1:=Lv hbel;have hev1:Ev m σ.h w m σ.h w1:=.of_keep (HStep.refl _ _) hk1 (fun b o v hb hc=>(World.cell?_of_block (a:=⟨b,o,none⟩) (hbel.block b (hs.rel.fzlt b hb))).trans hc) (fun _ h=>h);let las1:Las:=las++[(la,σ.h.length)];have hLof:∀l la',Lof las l la'→Lof las1 l la':=by
           rintro l la' ⟨top,h⟩;exact ⟨top,by rw [List.getElem?_append_left (List.lt_of_some h)];exact h⟩
          have hnew:Lof las1 σ.lp.length la:=⟨σ.h.length,by rw [←hs.lps.len];simp [las1]⟩;have hlps1:Lps P w0 m las1 σ.h w1 (σ.lp++[x]):=by
           refine ⟨by simp [las1,hs.lps.len],?_,fun l la2 top y e1 e2=>?_⟩
           ·simp only [las1,List.map_append,List.map_cons,List.map_nil];refine List.nodup_append.2 ⟨hs.lps.nd,by simp,fun p hp q hq=>?_⟩;simp at hq;subst hq;rintro rfl;obtain ⟨⟨la3,top3⟩,hm,e3⟩:=List.mem_map.1 hp;simp only at e3;subst e3;obtain ⟨l3,hl3,e4⟩:=List.mem_iff_getElem.1 hm;have e5:las[l3]? = some (la3,top3):=by rw [List.getElem?_eq_getElem hl3,e4]
            have hlt3:l3<σ.lp.length:=by rw [←hs.lps.len];exact hl3
            obtain ⟨_,_,r3,hr3,_⟩:=hs.lps.ok l3 la3 top3 _ e5 (List.getElem?_eq_getElem hlt3);have:=(Array.getElem?_eq_some_iff.1 hr3).1;omega
           ·rcases Nat.lt_or_ge l las.length with hlt|hge
            ·simp only [las1] at e1;rw [List.getElem?_append_left hlt] at e1;rw [List.getElem?_append_left (by rw [←hs.lps.len];exact hlt)] at e2;obtain ⟨g1,g0,r3,g2,g3⟩:=hs.lps.ok l la2 top y e1 e2;have e3:las1.take l=las.take l:=by simp only [las1];rw [List.take_append_of_le_length (by omega)]
             exact ⟨g1,g0,r3,hk1.2.2.1 _ _ g2 rfl,by rw [e3];exact g3.ev (hev1.cut top)⟩
            ·simp only [las1] at e1;rw [List.getElem?_append_right hge] at e1;rw [List.getElem?_append_right (by rw [←hs.lps.len];exact hge)] at e2;have hl0:l-las.length=0:=by have:=List.lt_of_some e1;simp at this;omega
             have hl1:l-σ.lp.length=0:=by rw [←hs.lps.len];exact hl0
             rw [hl0] at e1;rw [hl1] at e2;simp at e1 e2;obtain ⟨rfl,rfl⟩:=e1;subst e2;have hll:l=las.length:=by omega
             refine ⟨Nat.le_trans hs.rel.below.size hla,Nat.le_refl _,r,hrec,⟨⟨sm,by rw [has];exact h1,by rw [hbo];exact h2⟩,by rw [hps],?_,by rw [hst];rfl,fun _=>by rw [hpe];rfl,by simp [x]⟩⟩;have e3:las1.take l=las:=by rw [hll];simp [las1]
             rw [e3,List.take_length,htm];exact hs.tr.ev hev1 (fun _ _ h=>h)
          have hs1:Sim P w0 fz0 B m las1 { σ with lp:=σ.lp++[x] } { a with defers:=mk++a.defers } w1 :=
           ⟨hs.tr.ev hev1 hLof,hrel1,hlps1,hdf1,hs.bs.1,Nat.le_trans hs.bs.2 hbel.size⟩
          have hargs:VRels w1 m.fz (RefR w1 m σ.h (Lof las1)) (.yld σ.lp.length::cps) (#[Value.func (.yield la) #[] #[]]++vs).toList:=by
           refine ⟨by simp [hcps.1],fun j d c h1 h2=>?_⟩;cases j with
           | zero =>
             simp at h1 h2;subst h1;subst h2;exact .ref _ _ rfl ⟨la,rfl,hnew⟩
           | succ j =>
             simp at h1 h2;exact (hcps.2 j d c h1 (by rw [Array.getElem?_toList];exact h2)).ev hev1 hLof
          obtain ⟨c,w2,m2,s2,et,e2,l2,vr,hland⟩:=hK g _ b _ _ v0 σ1 hcall w0 fz0 B m las1 _ w1 (#[Value.func (.yield la) #[] #[]]++vs) hs1 hargs;obtain ⟨top2,hla2⟩:=hnew;obtain ⟨k1,k0,r2,k2,k3⟩:=s2.lps.ok σ.lp.length la top2 lp1 hla2 hlp1;have hb0:lp1.busy=false:=by simpa using hbusy
          have hnb:r2.state≠.busy:=by
           rw [k3.st,hb0];cases lp1.pend.isNone<;>simp
          have hend:=run_endLoop (P:=P) k2 hnb;have hev3:=Nf (m:=m2) (h:=σ1.h) (r':={ r2 with state:=.exhausted }) k2;have hev:Ev m σ.h w m2 σ1.h (w2.putObj la (.loop { r2 with state:=.exhausted })):=hev1.trans (e2.trans hev3);refine ⟨{ a with defers:=mk++a.defers },_,m2,⟨hs.tr.ev hev (fun _ _ h=>h),s2.rel.putRec k2 rfl k1,?_,s2.dfs.keep hev3.dfr,hs.bs.1,Nat.le_trans hs.bs.2 hev.sz⟩,hev,l2,fun k cs=>?_⟩
          ·refine ⟨?_,hs.lps.nd,fun l la3 top3 y e3 e4=>?_⟩
           ·have:=s2.lps.len;simp only [las1,List.length_append,List.length_cons,List.length_nil] at this;rw [List.length_take];have:=hs.lps.len;omega
           ·have hll:l<las.length:=List.lt_of_some e3;have hll2:l<σ.lp.length:=by rw [←hs.lps.len];exact hll
            rw [List.getElem?_take_of_lt hll2] at e4;have e5:las1[l]? = some (la3,top3):=by simp only [las1];rw [List.getElem?_append_left hll];exact e3
            obtain ⟨g1,g0,r3,g2,g3⟩:=s2.lps.ok l la3 top3 y e5 e4;have e6:las1.take l=las.take l:=by simp only [las1];rw [List.take_append_of_le_length (by omega)]
            have hne:la3≠la:=by
             intro e7;have e8:(las1.map (·.1))[l]? = some la:=by rw [List.getElem?_map,e5,←e7];rfl
             have e9:(las1.map (·.1))[σ.lp.length]? = some la:=by rw [List.getElem?_map,hla2];rfl
             have:=(List.getElem?_inj (List.lt_of_some e8) s2.lps.nd).1 (e8.trans e9.symm);omega
            exact ⟨g1,g0,r3,by rw [World.putObj_heap_other hne];exact g2,by rw [e6] at g3;exact g3.ev (hev3.cut top3)⟩
          ·obtain ⟨frm,q1,q2,q3⟩:=hland (fr.atR { a with defers:=mk++a.defers } (.inRangeFunc la::k)::cs);have hres:(resolve a.eval (rangeCall (.tmp t) la) 0).run P w1 = .ok { target:=.fn (.func g) vs,args := #[Value.func (.yield la) #[] #[]] } w1:=by
            simp only [resolve,ef];simp [Deferred.ofValue,Act.eval]
           have hinv:(invoke (.fn (.func g) vs) #[Value.func (.yield la) #[] #[]]).run P w1 = .ok (.enter g (#[Value.func (.yield la) #[] #[]]++vs)) w1:=by
            simp only [invoke];exact Le hfn hnm (by rw [hbd];rfl) _
           have hstep:=stepR_rangeFunc (P:=P) (b:=fr) (a:=a) (k:=k) (cs:=cs) hent hres hinv;have hback:=step_leave_returned (P:=P) (c:=fr.atR { a with defers:=mk++a.defers } (.inRangeFunc la::k)) (cs:=cs) q3;rw [finish_atR_inRangeFunc] at hback;have hfin:=stepR_endRangeFunc (P:=P) (b:=fr) (a:={ a with defers:=mk++a.defers }) (k:=k) (cs:=cs) hend;have hall:=(Steps.head hstep (q1.trans (.head hback (.one hfin))));generalize hz:(Option.map Item.code r2.pending).toList++k=z at hall;rw [k3.pe hb0] at hz;have hpn:=k3.pn;cases hpd:lp1.pend with
           | none=>rw [hpd] at hz;subst hz;exact hall
           | some e =>
             rw [hpd] at hz hpn;subst hz;cases e with
             | nrm=>exact absurd rfl hpn
             | ret=>exact ⟨k,hall⟩
             | ext id=>exact ⟨[],fun _=>rfl,hall⟩
        ·cases hx
       ·cases hx
      ·cases hx
     ·cases hcc
   | _=>simp [compC] at hcc
 | _=>simp [compC] at hcc
end
end Go.Mw
