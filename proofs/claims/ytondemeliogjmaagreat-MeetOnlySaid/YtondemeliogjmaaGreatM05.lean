/- What moves into memory. -/
import Derived.Test.YtondemeliogjmaaGreatM04
import Derived.Laws.CopyRow
set_option linter.unusedVariables false
set_option linter.unusedSimpArgs false
namespace Go.Mw
open Go.RowKit
theorem compat_node {a b:AV}(h:Jt a b)(hb:isNode b=true):isNode a=true:=by
 cases b<;>simp [isNode] at hb
 ·obtain ⟨xs,rfl,_⟩:=h;rfl
 ·obtain ⟨xs,rfl,_⟩:=h;rfl
theorem BQ.trans {m1 m2 m3:Mem}{r:Nat}{a b c:Ob}(h:BQ m1 m2 r a b)(k:BQ m2 m3 r b c):BQ m1 m3 r a c:=by
 rcases h with h|⟨h,h'⟩
 ·rcases k with k|⟨k,_⟩
  ·exact .inl (by omega)
  ·exact .inl (by omega)
 ·rcases k with k|⟨k,k'⟩
  ·exact .inl (by omega)
  ·refine .inr ⟨by omega,?_⟩;have root1:isNode b.c=true→Jt a.c b.c∧m2.blk r []=m1.blk r []:=by
    intro hn;rcases h' with ⟨_,h'⟩|⟨_,h'⟩
    ·exact h' _ rfl hn
    ·obtain ⟨nd,g1,g2,g3⟩:=h' [] b.c (nav_nil _) hn;rw [nav_nil] at g1;cases g1;exact ⟨g2,g3⟩
   have root2:isNode c.c=true→Jt b.c c.c∧m3.blk r []=m2.blk r []:=by
    intro hn;rcases k' with ⟨_,k'⟩|⟨_,k'⟩
    ·exact k' _ rfl hn
    ·obtain ⟨nd,g1,g2,g3⟩:=k' [] c.c (nav_nil _) hn;rw [nav_nil] at g1;cases g1;exact ⟨g2,g3⟩
   have root:∀nd',c.c=nd'→isNode nd'=true→Jt a.c nd'∧m3.blk r []=m1.blk r []:=by
    intro nd' e hn;subst e;obtain ⟨g1,g2⟩:=root2 hn;obtain ⟨g3,g4⟩:=root1 (compat_node g1 hn);exact ⟨Ou g3 g1,g2.trans g4⟩
   rcases h' with ⟨hs,_⟩|⟨hs,h'⟩
   ·rcases k' with ⟨ks,_⟩|⟨ks,_⟩
    ·exact .inl ⟨by omega,root⟩
    ·exact .inl ⟨by omega,root⟩
   ·rcases k' with ⟨ks,_⟩|⟨ks,k'⟩
    ·exact .inl ⟨by omega,root⟩
    ·refine .inr ⟨by omega,fun p nd' hn hi=>?_⟩;obtain ⟨nd1,g1,g2,g3⟩:=k' p nd' hn hi;obtain ⟨nd0,g4,g5,g6⟩:=h' p nd1 g1 (compat_node g2 hi);exact ⟨nd0,g4,Ou g5 g2,g3.trans g6⟩
theorem HStep.trans {m1 m2 m3:Mem}{h1 h2 h3:List Ob}(h:HStep m1 m2 h1 h2)(k:HStep m2 m3 h2 h3):HStep m1 m3 h1 h3:=fun r o ho=>by
 obtain ⟨o2,g1,g2⟩:=h r o ho;obtain ⟨o3,g3,g4⟩:=k r o2 g1;exact ⟨o3,g3,g2.trans g4⟩
theorem BQ.same {m m':Mem}{r:Nat}{o:Ob}(h:∀p nd,nav o.c p=some nd→isNode nd=true→m'.blk r p=m.blk r p):BQ m m' r o o :=
 .inr ⟨rfl,.inr ⟨rfl,fun p nd hn hi=>⟨nd,hn,Fr nd,h p nd hn hi⟩⟩⟩
theorem Cc {h h':List Ob}{r:Nat}{p:Path}{v:AV}{b:Bool}(hs:setOb h r p v b=some h') :
 ∃o c,h[r]? = some o∧upd o.c p v=some c∧h'=h.set r { o with c,ss:=if b then o.ss+1 else o.ss }:=by
 unfold setOb at hs;cases ho:h[r]? with
 | none=>simp [ho] at hs
 | some o =>
   simp only [ho] at hs;cases hu:upd o.c p v with
   | none=>simp [hu] at hs
   | some c=>simp [hu] at hs;exact ⟨o,c,rfl,hu,hs.symm⟩
theorem BQ.bump {m m':Mem}{r:Nat}{o:Ob}{p:Path}{v c:AV}(hu:upd o.c p v=some c)(hp:p = []→isNode v=true→Jt o.c v)(hb:isNode c=true→m'.blk r []=m.blk r []) :
 BQ m m' r o { o with c,ss:=o.ss+1 }:=by
 refine .inr ⟨rfl,.inl ⟨by simp,fun nd' e hi=>?_⟩⟩;simp only at e;subst e;refine ⟨?_,hb hi⟩;cases p with
 | nil=>rw [F7] at hu;cases hu;exact hp rfl hi
 | cons a p =>
   obtain ⟨i,j⟩:=a;obtain ⟨es,xs,e,c0,c1,h1,_,_,_,rfl⟩:=(FO ..).1 hu;rw [h1];exact ⟨xs,rfl,by simp⟩
theorem BQ.gone {m m':Mem}{r:Nat}{o:Ob}{p:Path}{c:AV}(hu:upd o.c p .gone=some c)(hb:∀p,m'.blk r p=m.blk r p):BQ m m' r o { o with c,ss:=o.ss }:=by
 refine .inr ⟨rfl,.inr ⟨rfl,fun q nd hn hi=>?_⟩⟩;simp only at hn;have hvo:∀cs,AV.gone≠.agg cs:=by intro cs h;cases h
 by_cases hp:p <+: q
 ·obtain ⟨t,rfl⟩:=hp;rw [Cs p _ _ _ hvo hu t] at hn;cases t with
  | nil=>rw [nav_nil] at hn;cases hn;cases hi
  | cons a t=>obtain ⟨i,j⟩:=a;simp [nav] at hn
 ·rcases nav_upd_other p _ _ _ hvo hu q nd hp hn with ⟨es1,xs1,xs1',_,g2,rfl,g4,_⟩|g
  ·exact ⟨_,g2,⟨xs1,rfl,by omega⟩,hb q⟩
  ·exact ⟨nd,g,Fr nd,hb q⟩
section
variable {P:Program}{w0:World}{fz0:Nat→Prop}{w:World}{L:Nat→Nat→Prop}
theorem Ni {fz:Nat→Prop}{R:AV→Value→Prop}{v:AV}{c:Value}(h:VRel w fz R v c)(hf:v.free1=true):VRel0 w fz v c:=by
 cases h with
 | base _ _ h=>exact h
 | ref _ _ hv _=>cases v<;>simp [AV.isRef,AV.free1] at hv hf
 | _=>simp [AV.free1] at hf
theorem V8 {fz:Nat→Prop}{R:AV→Value→Prop}{v:AV}{c:Value}(h:VRel w fz R v c)(hf:v.plain=true):VRel0 w fz v c:=by
 cases h with
 | base _ _ h=>exact h
 | ref _ _ hv _=>cases v<;>simp [AV.isRef,AV.plain] at hv hf
 | fn f cs vs hl hr =>
   simp only [AV.plain,List.all_eq_true] at hf;refine .fn f cs vs hl (fun j d u hd hu=>Ni (hr j d u hd hu) (hf d (List.mem_of_getElem? hd)))
 | _=>simp [AV.plain] at hf
theorem C4 {v:AV}(h:v.plain=true):v.one=true∧isNode v=false:=by
 cases v<;>simp [AV.plain] at h<;>exact ⟨rfl,rfl⟩
def JF (cs:List AV):List Ob:=cs.map fun c=>{ st:=0,ss:=0,c:=if isNode c then c else .gone }
theorem takeCell_cases {h h1:List Ob}{v c:AV}(hk:takeCell h v=some (c,h1)) :
 (v.plain=true∧c=v∧h1=h)∨(∃r st p ss len es xs,v = .sl r st p ss 0 len∧node h r st p ss=some (.own es xs)∧len≤xs.length∧c = .own es (xs.take len)∧setOb h r p .gone false=some h1)∨∃r st p ss es,v = .mp r st p ss∧node h r st p ss=some (.ownm es)∧c = .ownm es∧setOb h r p .gone false=some h1:=by
 unfold takeCell at hk;split at hk
 ·rename_i r st p ss off len;split at hk
  ·rename_i es xs hn;split at hk
   ·rename_i hc;split at hk
    ·rename_i h' hs;cases hk;obtain ⟨rfl,hl⟩:=hc;exact .inr (.inl ⟨r,st,p,ss,len,es,xs,rfl,hn,hl,rfl,hs⟩)
    ·cases hk
   ·cases hk
  ·cases hk
 ·rename_i r st p ss;split at hk
  ·rename_i es hn;split at hk
   ·rename_i h' hs;cases hk;exact .inr (.inr ⟨r,st,p,ss,es,rfl,hn,rfl,hs⟩)
   ·cases hk
  ·cases hk
 ·split at hk
  ·rename_i hp;cases hk;exact .inl ⟨hp,rfl,rfl⟩
  ·cases hk
theorem takeCells_sound:∀(vs:List AV) (us:List Value) (cs:List AV) (h h1 tl:List Ob) (m:Mem),Rel w0 fz0 m (h++tl) w →
 (∀(j:Nat) (d:AV) (u:Value),vs[j]? = some d→us[j]? = some u→d.one=true∧u.oneCell'=true∧VRel w m.fz (RefR w m h L) d u)→us.length=vs.length →
 takeCells h vs=some (cs,h1) →
 ∃m1:Mem,m1.fz=m.fz∧Rel w0 fz0 m1 (h1++tl++JF cs) w∧h1.length=h.length∧HStep m m1 h h1∧(∀r p,r<h.length+tl.length→m1.blk r p=m.blk r p)∧cs.length=vs.length ∧
  (∀(j:Nat) (c:AV) (u:Value),cs[j]? = some c→us[j]? = some u→c.one=true∧u.oneCell'=true ∧
    ((isNode c=false∧VRel0 w m.fz c u)∨(isNode c=true∧CellR w m1 (h.length+tl.length+j) [] c u))):=by
 intro vs;induction vs with
 | nil =>
   intro us cs h h1 tl m hr _ _ hk;simp [takeCells] at hk;obtain ⟨rfl,rfl⟩:=hk;exact ⟨m,rfl,by simpa [JF] using hr,rfl,HStep.refl m h,fun _ _ _=>rfl,rfl,fun j c u h=>by simp at h⟩
 | cons v vs ih =>
   intro us cs h h2 tl m hr hv hlen hk;cases us with
   | nil=>simp at hlen
   | cons u us =>
     obtain ⟨hone,h1c,hvr⟩:=hv 0 v u rfl rfl;simp only [takeCells] at hk;cases hc:takeCell h v with
     | none=>simp [hc] at hk
     | some ch =>
       obtain ⟨c,h1⟩:=ch;simp only [hc] at hk;cases hcs:takeCells h1 vs with
       | none=>simp [hcs] at hk
       | some csh =>
         obtain ⟨cs',h2'⟩:=csh;simp only [hcs,Option.some.injEq,Prod.mk.injEq] at hk;obtain ⟨rfl,rfl⟩:=hk;have first:∃m1:Mem,m1.fz=m.fz∧Rel w0 fz0 m1 (h1++(tl++[{ st:=0,ss:=0,c:=if isNode c then c else .gone }])) w∧h1.length=h.length∧HStep m m1 h h1∧(∀r p,r<h.length+tl.length→m1.blk r p=m.blk r p)∧c.one=true ∧
          ((isNode c=false∧VRel0 w m.fz c u)∨(isNode c=true∧CellR w m1 (h.length+tl.length) [] c u)):=by
          rcases takeCell_cases hc with ⟨hp,rfl,rfl⟩|⟨r,st,p,ss,len,es,xs,rfl,hn,hle,rfl,hs⟩|⟨r,st,p,ss,es,rfl,hn,rfl,hs⟩
          ·obtain ⟨p1,p2⟩:=C4 hp;refine ⟨m,rfl,?_,rfl,HStep.refl m h1,fun _ _ _=>rfl,p1,.inl ⟨p2,V8 hvr hp⟩⟩;rw [p2];refine hr.congr (fun r p nd hn hi=>?_);obtain ⟨o,e,hnav⟩:=Ac.1 hn;rw [←List.append_assoc] at e;rcases Nat.lt_or_ge r (h1++tl).length with hlt|hge
           ·rw [List.getElem?_append_left hlt] at e;exact Ac.2 ⟨o,e,hnav⟩
           ·rw [List.getElem?_append_right hge] at e;have:o.c = .gone:=by
             cases hk:r-(h1++tl).length with
             | zero=>rw [hk] at e;simp at e;rw [←e]
             | succ k=>rw [hk] at e;simp at e
            rw [this] at hnav;exact (Hg hnav hi).elim
          ·obtain ⟨o,c',ho,hu,rfl⟩:=Cc hs;obtain ⟨ob,g1,g2,g3,g4⟩:=hvr.inv_ref rfl;obtain ⟨g5,g6⟩:=g4 _ _ hn;have hrl:r<h.length:=List.lt_of_some ho;have hT:h.length+tl.length≠r:=by omega
           have hnA:nodeAt (h++tl) r p=some (.own es xs):=by
            obtain ⟨o',e1,e2⟩:=Ac.1 (CK hn);exact Ac.2 ⟨o',by rw [List.getElem?_append_left hrl];exact e1,e2⟩
           refine ⟨{ blk:=takeBlk m r p es 0 (h.length+tl.length),fz:=m.fz },rfl,?_,by simp,?_,fun r2 p2 hr2=>?_,rfl,.inr ⟨rfl,?_⟩⟩
           ·simp only [isNode,if_true];refine hr.take hnA 0 len (h.length+tl.length) hT (fun o ho=>?_) ⟨{ st:=0,ss:=0,c:=.own es (xs.take len) },?_,by simp⟩ ⟨o,_,by rw [List.getElem?_append_left hrl];exact ho,by rw [List.getElem?_append_left (by simpa using hrl),List.getElem?_set_self hrl],hu⟩ (fun r2 o2 e1 e2 e3 hi=>?_)
            ·rw [List.getElem?_eq_none (by simp)] at ho;cases ho
            ·rw [←List.append_assoc,List.getElem?_append_right (by simp)];simp
            ·refine ⟨o2,?_,rfl⟩;rw [←List.append_assoc] at e3;rcases Nat.lt_or_ge r2 (h.length+tl.length) with hlt|hge
             ·rw [List.getElem?_append_left (by simpa using hlt)] at e3;rcases Nat.lt_or_ge r2 h.length with hl2|hl2
              ·rw [List.getElem?_append_left (by simpa using hl2),List.getElem?_set_ne (fun h=>e1 h.symm)] at e3;rw [List.getElem?_append_left hl2];exact e3
              ·rw [List.getElem?_append_right (by simpa using hl2)] at e3;rw [List.getElem?_append_right hl2];simpa using e3
             ·have:r2≠h.length+tl.length:=e2;rw [List.getElem?_eq_none (by simp;omega)] at e3;cases e3
           ·intro r2 o2 ho2;by_cases er:r2=r
            ·subst er;rw [ho] at ho2;cases ho2;refine ⟨_,by rw [List.getElem?_set_self hrl];rfl,BQ.gone hu (fun _=>by show takeBlk _ _ _ _ _ _ _ _=_;unfold takeBlk;rw [if_neg hT.symm])⟩
            ·exact ⟨o2,by rw [List.getElem?_set_ne (fun h=>er h.symm)];exact ho2,BQ.same (fun p nd _ _=>by
              have:=List.lt_of_some ho2;have hne:r2≠h.length+tl.length:=by omega
              simp [takeBlk,hne])⟩
           ·have hne:r2≠h.length+tl.length:=by omega
            simp [takeBlk,hne]
           ·have hlt:(xs.take len).length=len:=by simp;omega
            simp only [CellR];rw [hlt];obtain ⟨A,cap,e,h3,h4⟩:=g6;refine ⟨A,cap,e,h3,?_⟩;have hb:takeBlk m r p es 0 (h.length+tl.length) (h.length+tl.length) []=m.blk r p:=by simp [takeBlk]
            simp only [hb];exact h4
          ·obtain ⟨o,c',ho,hu,rfl⟩:=Cc hs;obtain ⟨ob,g1,g2,g3,g4⟩:=hvr.inv_ref rfl;have g6:=g4 _ hn;have hrl:r<h.length:=List.lt_of_some ho;have hT:h.length+tl.length≠r:=by omega
           have hnA:nodeAt (h++tl) r p=some (.ownm es):=by
            obtain ⟨o',e1,e2⟩:=Ac.1 (CK hn);exact Ac.2 ⟨o',by rw [List.getElem?_append_left hrl];exact e1,e2⟩
           refine ⟨{ blk:=takeBlk m r p 0 0 (h.length+tl.length),fz:=m.fz },rfl,?_,by simp,?_,fun r2 p2 hr2=>?_,rfl,.inr ⟨rfl,?_⟩⟩
           ·simp only [isNode,if_true];refine hr.takeM hnA (h.length+tl.length) hT (fun o ho=>?_) ⟨{ st:=0,ss:=0,c:=.ownm es },?_,rfl⟩ ⟨o,_,by rw [List.getElem?_append_left hrl];exact ho,by rw [List.getElem?_append_left (by simpa using hrl),List.getElem?_set_self hrl],hu⟩ (fun r2 o2 e1 e2 e3 hi=>?_)
            ·rw [List.getElem?_eq_none (by simp)] at ho;cases ho
            ·rw [←List.append_assoc,List.getElem?_append_right (by simp)];simp
            ·refine ⟨o2,?_,rfl⟩;rw [←List.append_assoc] at e3;rcases Nat.lt_or_ge r2 (h.length+tl.length) with hlt|hge
             ·rw [List.getElem?_append_left (by simpa using hlt)] at e3;rcases Nat.lt_or_ge r2 h.length with hl2|hl2
              ·rw [List.getElem?_append_left (by simpa using hl2),List.getElem?_set_ne (fun h=>e1 h.symm)] at e3;rw [List.getElem?_append_left hl2];exact e3
              ·rw [List.getElem?_append_right (by simpa using hl2)] at e3;rw [List.getElem?_append_right hl2];simpa using e3
             ·have:r2≠h.length+tl.length:=e2;rw [List.getElem?_eq_none (by simp;omega)] at e3;cases e3
           ·intro r2 o2 ho2;by_cases er:r2=r
            ·subst er;rw [ho] at ho2;cases ho2;refine ⟨_,by rw [List.getElem?_set_self hrl];rfl,BQ.gone hu (fun _=>by show takeBlk _ _ _ _ _ _ _ _=_;unfold takeBlk;rw [if_neg hT.symm])⟩
            ·exact ⟨o2,by rw [List.getElem?_set_ne (fun h=>er h.symm)];exact ho2,BQ.same (fun p nd _ _=>by
              have:=List.lt_of_some ho2;have hne:r2≠h.length+tl.length:=by omega
              simp [takeBlk,hne])⟩
           ·have hne:r2≠h.length+tl.length:=by omega
            simp [takeBlk,hne]
           ·simp only [CellR];rw [g6];simp [takeBlk]
         obtain ⟨m1,hfz,hr1,hl1,hst1,hbk1,hcone,hcr⟩:=first
         have hvs':∀(j:Nat) (d:AV) (u:Value),vs[j]? = some d→us[j]? = some u→d.one=true∧u.oneCell'=true∧VRel w m1.fz (RefR w m1 h1 L) d u:=by
          intro j d u hd hu;obtain ⟨k1,k2,k3⟩:=hv (j+1) d u hd hu;exact ⟨k1,k2,k3.mono (fun _ _ _ _ h=>h) (fun b hb=>hfz▸hb) (fun v c hrr=>RefR.mono (WKeep.refl w) hst1 (fun _ _ h=>h) hrr)⟩
         obtain ⟨m2,hfz2,hr2,hl2,hst2,hbk2,hcl2,hall2⟩:=ih us cs' h1 h2' (tl++[{ st:=0,ss:=0,c:=if isNode c then c else .gone }]) m1 hr1 hvs' (by simpa using hlen) hcs;refine ⟨m2,hfz2.trans hfz,?_,hl2.trans hl1,hst1.trans hst2,fun r p hrp=>?_,by simp [hcl2],fun j d x hd hx=>?_⟩
         ·simpa [JF] using hr2
         ·rw [hbk2 r p (by simp;omega),hbk1 r p hrp]
         ·cases j with
          | zero =>
            simp at hd hx;subst hd;subst hx;refine ⟨hcone,h1c,?_⟩;rcases hcr with h|⟨hcn,hs⟩
            ·exact .inl h
            ·refine .inr ⟨hcn,?_⟩;refine hs.mono (WKeep.refl w) (fun _ _ _ _ h=>h) (fun b hb=>by rw [hfz2];exact hb) (fun _=>?_);rw [Nat.add_zero];exact hbk2 _ _ (by simp;omega)
          | succ j =>
            simp at hd hx;obtain ⟨k1,k2,k3⟩:=hall2 j d x hd hx;refine ⟨k1,k2,?_⟩;rcases k3 with ⟨k3,k4⟩|⟨k3,hs⟩
            ·exact .inl ⟨k3,hfz▸k4⟩
            ·refine .inr ⟨k3,?_⟩;have e1:h1.length+(tl++[({ st:=0,ss:=0,c:=if isNode c then c else .gone }:Ob)]).length+j=h.length+tl.length+(j+1):=by simp;omega
             rw [e1] at hs;exact hs
end
end Go.Mw
namespace Go.Mw
open Go.RowKit
section
variable {P:Program}{sm:List Nat}{o:Oper}{a:Act}{w0:World}{fz0:Nat→Prop}{m:Mem}{w:World}{L:Nat→Nat→Prop}{σ:St}{base:Nat}{i:Ins}{v:AV}{h':List Ob}
theorem setRow_other (w:World)(g:Nat)(arr:Array Value)(k:Nat)(h:k≠g):(w.setRow g arr).heap[k]? = w.heap[k]? := by
 simp only [World.setRow,Array.getElem?_modify];rw [if_neg (fun e=>h e.symm)]
theorem setRow_size (w:World)(g:Nat)(arr:Array Value):(w.setRow g arr).heap.size=w.heap.size:=by
 simp [World.setRow]
theorem setRow_below {B:Nat}{w1 w:World}(hb:Below B w1 w){g:Nat}(hg:B≤g)(arr:Array Value):Below B w1 (w.setRow g arr) :=
 hb.trans ⟨rfl,rfl,rfl,by rw [setRow_size];exact Nat.le_refl _,fun k hk=>setRow_other _ _ _ _ (by omega)⟩
theorem setRow_wkeep {w:World}{g:Nat}{arr arr':Array Value}{ty:TypeId}(hg:w.heap[g]? = some (.cells arr ty (0,0)))(hs:arr'.size=arr.size):WKeep w (w.setRow g arr'):=by
 refine ⟨fun b c t hb=>?_,fun b ents clock hb=>?_,fun b o hb ho=>?_,by rw [setRow_size];exact Nat.le_refl _⟩
 rotate_left 2
 ·by_cases e:b=g
  ·subst e;rw [hg] at hb;cases hb;cases ho
  ·rw [setRow_other _ _ _ _ e];exact hb
 ·by_cases e:b=g
  ·subst e;rw [hg] at hb;cases hb;exact ⟨arr',setRow_heap w b arr arr' ty _ hg,hs⟩
  ·exact ⟨c,by rw [setRow_other _ _ _ _ e];exact hb,rfl⟩
 ·by_cases e:b=g
  ·subst e;rw [hg] at hb;cases hb
  ·exact ⟨ents,clock,by rw [setRow_other _ _ _ _ e];exact hb,fun i e h=>⟨e,h,rfl⟩⟩
theorem QY:∀(cs:List AV) (e:AV) (j:Nat),(∀c∈cs,c.one=true)→j+cs.length≤e.cells.length →
 (setCells e j cs).cells.length=e.cells.length∧∀k,(setCells e j cs).cells[k]? = if j≤k∧k<j+cs.length then cs[k-j]? else e.cells[k]? := by
 intro cs;induction cs with
 | nil =>
   intro e j _ _;refine ⟨rfl,fun k=>?_⟩;simp only [setCells,List.length_nil,Nat.add_zero];rw [if_neg (by omega)]
 | cons c cs ih =>
   intro e j h1 hl;simp only [List.length_cons] at hl;have hc:=AV.one_ne (h1 c (List.mem_cons_self ..));obtain ⟨g1,g2⟩:=CW e j c hc;have g2:=g2 (by omega);obtain ⟨k1,k2⟩:=ih (setCellOf e j c) (j+1) (fun d hd=>h1 d (List.mem_cons_of_mem _ hd)) (by rw [g1];omega);refine ⟨by simp only [setCells];rw [k1,g1],fun k=>?_⟩;simp only [setCells];rw [k2 k,g2 k];simp only [List.length_cons];by_cases ek:k=j
   ·subst ek;rw [if_neg (by omega),if_pos rfl,if_pos (by omega)];simp
   ·by_cases hk:j+1≤k∧k<j+1+cs.length
    ·rw [if_pos hk,if_pos (by omega)];have:k-j=(k-(j+1))+1:=by omega
     rw [this,List.getElem?_cons_succ]
    ·rw [if_neg hk,if_neg ek,if_neg (by omega)]
theorem Lo {m:Mem}{r:Nat}{p:Path}{tf:Nat→Nat→Option (Nat×Path)}(h:∀i j,tf i j=none):putBlk m r p tf=m.blk:=by
 funext r2 p2;unfold putBlk;split
 ·split
  ·rename_i i j q hs;rw [h i j]
  ·rfl
 ·rfl
theorem VZ {cs:List AV}{k:Nat}{c:AV}(h:cs[k]? = some c)(hn:isNode c=true)(h1:List Ob):nodeAt (h1++JF cs) (h1.length+k) []=some c:=by
 refine Ac.2 ⟨{ st:=0,ss:=0,c:=c },?_,nav_nil _⟩;rw [List.getElem?_append_right (by omega)];simp only [JF,Nat.add_sub_cancel_left,List.getElem?_map,h,Option.map_some,hn,if_true]
theorem BQ.keep {m m':Mem}{r:Nat}{o:Ob}{p:Path}{es:Nat}{xs xs':List AV}{c:AV}(hu:upd o.c p (.own es xs')=some c)(hn:nav o.c p=some (.own es xs))(hl:xs'.length=xs.length)
 (hcell:∀(i j:Nat) (e d:AV),xs'[i]? = some e→e.cells[j]? = some d→isNode d=true→∃e0,xs[i]? = some e0∧e0.cells[j]? = some d)
 (hb:∀q,m'.blk r q=m.blk r q):BQ m m' r o { o with c }:=by
 have hvo:∀cs,AV.own es xs'≠.agg cs:=by intro cs h;cases h
 refine .inr ⟨rfl,.inr ⟨rfl,fun q nd' hq hi=>?_⟩⟩;simp only at hq;by_cases hp:p <+: q
 ·obtain ⟨t,rfl⟩:=hp;rw [Cs p _ _ _ hvo hu t] at hq;cases t with
  | nil=>rw [nav_nil] at hq;cases hq;exact ⟨_,by rw [List.append_nil];exact hn,⟨xs,rfl,by omega⟩,hb _⟩
  | cons x t =>
    obtain ⟨i,j⟩:=x;obtain ⟨es1,xs1,e,d,h3,he,hd,ht⟩:=(AF ..).1 hq;cases h3;obtain ⟨e0,k1,k2⟩:=hcell i j e d he hd (BW ht hi);exact ⟨nd',Nu _ _ _ _ _ hn ((AF ..).2 ⟨es,xs,e0,d,rfl,k1,k2,ht⟩),Fr _,hb _⟩
 ·rcases nav_upd_other p _ _ _ hvo hu q nd' hp hq with ⟨es1,xs1,xs1',g1,g2,rfl,g4,g5⟩|g
  ·exact ⟨_,g2,⟨xs1,rfl,by omega⟩,hb _⟩
  ·exact ⟨nd',g,Fr _,hb _⟩
theorem AjP (ht:TR w m σ.h L σ.t a.tmps)(hr:Rel w0 fz0 m σ.h w){t:TypeId}{x y:Operand}{x' y':Opd}{n:Nat}(ho:o.op = .store t x y)
 (hn:szT P t=some n) (h1:opd x=some x') (h2:opd y=some y')
 (hx:ax base (.sto n x' y') σ=some (v,h')):OpOk P o a w0 fz0 m σ.h w L v h':=by
 have hb:=ht.get (a:=a) h1;have hd:=ht.get (a:=a) h2;simp only [ax] at hx;generalize hg:σ.get x'=g at hx hb;cases g<;>simp only [reduceCtorEq] at hx;rename_i r st p ss i j;split at hx
 ·rename_i es0 xs0 vs hnd hvc;cases htk:takeCells σ.h vs with
  | none=>simp [htk] at hx
  | some csh =>
    obtain ⟨cs,hh1⟩:=csh;simp only [htk] at hx;split at hx
    ·rename_i es xs hnA;cases hxi:xs[i]? with
     | none=>simp [hxi] at hx
     | some e =>
       simp only [hxi] at hx;split at hx
       ·rename_i hcond;obtain ⟨rfl,hle⟩:=hcond;cases hso:setOb hh1 r p (.own es0 (xs.set i (setCells e j cs))) (cs.any isNode||((e.cells.drop j).take n).any isNode) with
        | none=>simp [hso] at hx
        | some hf =>
          simp only [hso,Option.map_some,Option.some.injEq,Prod.mk.injEq] at hx;obtain ⟨rfl,rfl⟩:=hx;obtain ⟨ob0,b1,b2,b3,b4⟩:=hb.inv_ref rfl;have eA:=b4 _ _ hnd;obtain ⟨v1,v2,v3⟩:=NR hd hvc;obtain ⟨m1,hfz,hr1,hl1,hst1,hbk,hcl,hall⟩:=takeCells_sound (w0:=w0) (fz0:=fz0) (L:=L) vs (a.eval y).cells.toList cs σ.h hh1 [] m (by simpa using hr) (fun jj d u hd' hu'=>v3 jj d u hd' (by simpa using hu')) (by simp [v1,v2]) htk;simp only [List.append_nil,List.length_nil,Nat.add_zero] at hr1 hbk hall;have hrl:r<σ.h.length:=List.lt_of_some b1;have hcsn:cs.length=n:=by rw [hcl,v1]
          obtain ⟨oo,cc,hoo,huu,hff⟩:=Cc hso;have hrl1:r<hh1.length:=by omega
          have hnA':nodeAt (hh1++JF cs) r p=some (.own es0 xs):=by
           obtain ⟨o',e1,e2⟩:=Ac.1 hnA;exact Ac.2 ⟨o',by rw [List.getElem?_append_left hrl1];exact e1,e2⟩
          obtain ⟨hpos,arr,ty,ha,hcells⟩:=hr1.nodes _ _ _ hnA';obtain ⟨hes,hecs⟩:=hcells i e hxi;have hbr:=hbk r p hrl;rw [hbr] at ha hecs;have hlo:=hr1.lo _ _ _ hnA' rfl;rw [hbr] at hlo;have husl:(a.eval y).cells.toList.length=n:=by simpa using v2
          have hfit:(m.blk r p).2+(i*es0+j)+0+(a.eval y).cells.toList.length≤arr.size:=by
           rcases Nat.eq_zero_or_pos n with h0|h0
           ·have:(m.blk r p).2+(i*es0+j)≤arr.size:=by
             rcases Nat.eq_zero_or_pos e.cells.length with hz|hz
             ·omega
             ·obtain ⟨_,u,g2,_⟩:=hecs (e.cells.length-1) _ (List.getElem?_eq_getElem (by omega));have:=(Array.getElem?_eq_some_iff.1 g2).1;omega
            omega
           ·obtain ⟨_,u,g2,_⟩:=hecs (j+n-1) _ (List.getElem?_eq_getElem (by omega));have:=(Array.getElem?_eq_some_iff.1 g2).1;omega
          have hone:∀u∈(a.eval y).cells.toList,u.oneCell'=true:=by
           intro u hu;obtain ⟨k,hk1,hk2⟩:=List.mem_iff_getElem.1 hu;have hk3:k<vs.length:=by omega
           exact (v3 k vs[k] u (List.getElem?_eq_getElem hk3) (by rw [←Array.getElem?_toList,List.getElem?_eq_getElem hk1,hk2])).2.1
          have hrun:=run_storeCells_at (P:=P) (m.blk r p).1 ((m.blk r p).2+(i*es0+j)) ty (a.eval y).cells.toList 0 arr w ha hfit hone;let arr':Array Value:=(arr.toList.take ((m.blk r p).2+(i*es0+j))++(a.eval y).cells.toList++arr.toList.drop ((m.blk r p).2+(i*es0+j)+n)).toArray;have hrun':(Instr.storeAt t (.pointer (some ⟨(m.blk r p).1,(m.blk r p).2+(i*es0+j),none⟩)) (a.eval y)).run P w = .ok () (w.setRow (m.blk r p).1 arr'):=by
           simp only [Instr.storeAt,Instr.sureAddr,storeVar];have:¬((a.eval y).cells.size≠n):=by simp [v2]
           simp only [Nat.add_zero,husl] at hrun;simp [Ba hn,v2,hrun,arr']
          have hasz:arr'.size=arr.size:=by simp [arr',v2];omega
          have ha':(w.setRow (m.blk r p).1 arr').heap[(m.blk r p).1]? = some (.cells arr' ty (0,0)):=setRow_heap w _ arr arr' ty _ ha;have hget:∀k,arr'[k]? = if (m.blk r p).2+(i*es0+j)≤k∧k<(m.blk r p).2+(i*es0+j)+n then (a.eval y).cells[k-((m.blk r p).2+(i*es0+j))]? else arr[k]? := by
           intro k;have hoff:(m.blk r p).2+(i*es0+j)≤arr.size:=by omega
           rw [←Array.getElem?_toList];simp only [arr'];by_cases c1:k<(m.blk r p).2+(i*es0+j)
           ·rw [if_neg (by omega),List.append_assoc,List.getElem?_append_left (by simp;omega),List.getElem?_take,if_pos c1];simp
           ·by_cases c2:k<(m.blk r p).2+(i*es0+j)+n
            ·rw [if_pos ⟨by omega,c2⟩,List.getElem?_append_left (by simp;omega),List.getElem?_append_right (by simp;omega)];simp only [List.length_take,Array.length_toList,Array.getElem?_toList];congr 1;omega
            ·rw [if_neg (by omega),List.getElem?_append_right (by simp;omega)];have e1:(List.take ((m.blk r p).2+(i*es0+j)) arr.toList++(a.eval y).cells.toList).length=(m.blk r p).2+(i*es0+j)+n:=by simp [v2];omega
             rw [e1,List.getElem?_drop];simp only [Array.getElem?_toList];congr 1;omega
          have hone1:∀c∈cs,c.one=true:=by
           intro c hc;obtain ⟨k,hk1,hk2⟩:=List.mem_iff_getElem.1 hc;have hk3:k<(a.eval y).cells.toList.length:=by omega
           exact (hall k c _ (by rw [List.getElem?_eq_getElem hk1,hk2]) (List.getElem?_eq_getElem hk3)).1
          obtain ⟨sc1,sc2⟩:=QY cs e j hone1 (by omega);have hil:i<xs.length:=List.lt_of_some hxi;let tf:Nat→Nat→Option (Nat×Path):=fun i' j'=>if i'=i∧j≤j'∧j'<j+n then match cs[j'-j]? with
           | some c=>if isNode c then some (hh1.length+(j'-j),[]) else none
           | none=>none
           else none
          have hel:∀(i':Nat) (e':AV),(xs.set i (setCells e j cs))[i']? = some e'→(i'=i∧e'=setCells e j cs)∨(i'≠i∧xs[i']? = some e'):=by
           intro i' e' h;by_cases ei:i'=i
           ·subst ei;rw [List.getElem?_set_self hil] at h;cases h;exact .inl ⟨rfl,rfl⟩
           ·rw [List.getElem?_set_ne (fun h=>ei h.symm)] at h;exact .inr ⟨ei,h⟩
          have hwk:=setRow_wkeep ha hasz;have htf:∀i' j' T q,tf i' j'=some (T,q)→i'=i∧j≤j'∧j'<j+n∧T=hh1.length+(j'-j)∧q = []∧∃c,cs[j'-j]? = some c∧isNode c=true:=by
           intro i' j' T q h;simp only [tf] at h;split at h
           ·rename_i hc;split at h
            ·rename_i c hcc;split at h
             ·rename_i hin;cases h;exact ⟨hc.1,hc.2.1,hc.2.2,rfl,rfl,c,hcc,hin⟩
             ·cases h
            ·cases h
           ·cases h
          have hput:=hr1.put (h':=hf) (w':=w.setRow (m.blk r p).1 arr') (arr:=arr) (arr':=arr') (ty:=ty) hnA' (setRow_below hr.below hlo.1 arr') (by rw [setRow_size];exact Nat.le_refl _)
           (fun k hk _=>setRow_other _ _ _ _ (by rw [hbr] at hk;exact hk)) hwk (by rw [hbr];exact ha) (by rw [hbr];exact ha') tf (xs':=xs.set i (setCells e j cs)) ?_ ?_ ?_ ?_ (.inr (by simp)) ?_ ?_
          rotate_left
          ·intro i' e' he';rcases hel i' e' he' with ⟨rfl,rfl⟩|⟨_,h⟩
           ·rw [sc1];exact hes
           ·exact (hcells i' e' h).1
          ·intro i' j' e' c' he' hc';rw [hbr];rcases hel i' e' he' with ⟨rfl,rfl⟩|⟨hne,h⟩
           ·rw [sc2 j',hcsn] at hc';split at hc'
            ·rename_i hrange;have hk3:j'-j<(a.eval y).cells.toList.length:=by omega
             obtain ⟨u,hu⟩:∃u,(a.eval y).cells.toList[j'-j]? = some u:=⟨_,List.getElem?_eq_getElem hk3⟩;obtain ⟨g1,g2,g3⟩:=hall (j'-j) c' u hc' hu;refine ⟨g1,u,?_,g2,?_⟩
             ·rw [hget,if_pos (by omega)];rw [←Array.getElem?_toList,←hu];congr 1;omega
             ·rcases g3 with ⟨g3,g4⟩|⟨g3,g4⟩
              ·refine .inl ⟨?_,g3,?_⟩
               ·simp only [tf];rw [if_pos ⟨trivial,hrange.1,hrange.2⟩,hc'];simp [g3]
               ·rw [←hfz] at g4;cases c'<;>first|exact g4|exact True.intro|(simp [isNode] at g3)
              ·refine .inr (.inr ⟨hh1.length+(j'-j),[],?_,VZ hc' g3 hh1,g3,?_⟩)
               ·simp only [tf];rw [if_pos ⟨trivial,hrange.1,hrange.2⟩,hc'];simp only [g3,if_true]
               ·rw [hl1];exact g4
            ·rename_i hrange;obtain ⟨g1,u,g2,g3,g4⟩:=hecs j' c' hc';have hjlt:j'<es0:=by rw [←hes];exact List.lt_of_some hc'
             refine ⟨g1,u,?_,g3,.inr (.inl ⟨?_,⟨e,hxi,hc'⟩,g2⟩)⟩
             ·rw [hget,if_neg (by omega)];exact g2
             ·simp only [tf];rw [if_neg (by omega)]
           ·obtain ⟨k1,k2⟩:=hcells i' e' h;obtain ⟨g1,u,g2,g3,g4⟩:=k2 j' c' hc';rw [hbr] at g2;have hjlt:j'<es0:=by rw [←k1];exact List.lt_of_some hc'
            have hrow:¬((m.blk r p).2+(i*es0+j)≤(m.blk r p).2+(i'*es0+j')∧(m.blk r p).2+(i'*es0+j')<(m.blk r p).2+(i*es0+j)+n):=by
             intro ⟨q1,q2⟩;rcases Nat.lt_or_gt_of_ne hne with hlt|hgt
             ·have:(i'+1)*es0≤i*es0:=Nat.mul_le_mul_right _ hlt;rw [Nat.add_mul] at this;omega
             ·have:(i+1)*es0≤i'*es0:=Nat.mul_le_mul_right _ hgt;rw [Nat.add_mul] at this;omega
            refine ⟨g1,u,?_,g3,.inr (.inl ⟨?_,⟨e',h,hc'⟩,g2⟩)⟩
            ·rw [hget,if_neg hrow];exact g2
            ·simp only [tf];rw [if_neg (by omega)]
          ·intro i' j' T q h;obtain ⟨_,_,_,rfl,_⟩:=htf i' j' T q h;omega
          ·intro i1 j1 i2 j2 T q T' q' e1 e2 hne;obtain ⟨rfl,a1,a2,rfl,rfl,_⟩:=htf _ _ _ _ e1;obtain ⟨rfl,c1,c2,rfl,rfl,_⟩:=htf _ _ _ _ e2;refine .inl (fun he=>hne ?_);have:j1=j2:=by omega
           subst this;rfl
          ·intro r2 o2 hne ho2 hi2;rw [hff,List.getElem?_set_ne (fun h=>hne h.symm)] at ho2;have hlt2:=List.lt_of_some ho2;refine ⟨o2,by rw [List.getElem?_append_left hlt2];exact ho2,rfl,fun i' j' T q h=>?_⟩;obtain ⟨_,_,_,rfl,_⟩:=htf i' j' T q h;omega
          ·exact ⟨oo,_,by rw [List.getElem?_append_left hrl1];exact hoo,by rw [hff,List.getElem?_set_self hrl1],huu⟩
          refine ⟨undef,w.setRow (m.blk r p).1 arr',{ blk:=putBlk m1 r p tf,fz:=m1.fz },.inr ⟨?_,rfl⟩,hput,?_,hwk,?_,fun b hb'=>by simpa [hfz] using hb',by rw [hff];simp [hl1],.base _ _ (.undef _)⟩
          ·simp only [execOp,ho,eA];simp [hrun']
          ·refine hst1.trans (fun r2 o2 ho2=>?_);by_cases er:r2=r
           ·subst er;rw [hoo] at ho2;cases ho2;refine ⟨_,by rw [hff,List.getElem?_set_self hrl1],?_⟩;by_cases hbump:(cs.any isNode||((e.cells.drop j).take n).any isNode)=true
            ·rw [if_pos hbump];refine BQ.bump huu (fun hp _=>?_) (fun _=>?_)
             ·subst hp;obtain ⟨o',e1,e2⟩:=Ac.1 hnA;rw [hoo] at e1;cases e1;rw [nav_nil] at e2;simp only [Option.some.injEq] at e2;rw [e2];exact ⟨xs,rfl,by simp⟩
             ·show putBlk m1 r2 p tf r2 []=_;cases p with
              | nil=>exact DY
              | cons q p=>exact C7 (fun h=>by simp at h)
            ·rw [if_neg hbump];have hbf:(cs.any isNode||((e.cells.drop j).take n).any isNode)=false:=by simpa using hbump
             rw [Bool.or_eq_false_iff] at hbf;have hnoT:∀i' j',tf i' j'=none:=by
              intro i' j';cases hq:tf i' j' with
              | none=>rfl
              | some Tq =>
                obtain ⟨T,q⟩:=Tq;obtain ⟨_,_,_,_,_,c,hc1,hc2⟩:=htf _ _ _ _ hq;have:=List.any_eq_false.1 hbf.1 c (List.mem_of_getElem? hc1);rw [hc2] at this;simp at this
             obtain ⟨o',e1,e2⟩:=Ac.1 hnA;rw [hoo] at e1;cases e1;refine BQ.keep huu e2 (by simp) (fun i' j' e' d he' hd' hnd'=>?_) (fun q=>by show putBlk m1 r2 p tf r2 q=_;rw [Lo hnoT]);rcases hel i' e' he' with ⟨rfl,rfl⟩|⟨hne,h⟩
             ·rw [sc2 j',hcsn] at hd';split at hd'
              ·have:=List.any_eq_false.1 hbf.1 d (List.mem_of_getElem? hd');rw [hnd'] at this;simp at this
              ·exact ⟨e,hxi,hd'⟩
             ·exact ⟨e',h,hd'⟩
           ·exact ⟨o2,by rw [hff,List.getElem?_set_ne (fun h=>er h.symm)];exact ho2,BQ.same (fun q nd _ _=>HU er)⟩
          ·intro b off u hb' hc';have hne:b≠(m.blk r p).1:=fun e=>hlo.2 (by rw [hfz];exact e▸hb');exact (World.cell?_of_block (a:=⟨b,off,none⟩) (setRow_other _ _ _ _ hne)).trans hc'
       ·cases hx
    ·cases hx
 ·cases hx
end
end Go.Mw
namespace Go.Mw
open Go.RowKit
section
variable {P:Program}{sm:List Nat}{o:Oper}{a:Act}{w0:World}{fz0:Nat→Prop}{m:Mem}{w:World}{L:Nat→Nat→Prop}{σ:St}{base:Nat}{i:Ins}{v:AV}{h':List Ob}
theorem A9 {h h':List Ob}{r st:Nat}{c:AV}(hk:newOb h r c=some (h',st)):∃o,h[r]? = some o∧o.c = .gone∧st=o.st+1∧h'=h.set r { st:=o.st+1,ss:=0,c }:=by
 unfold newOb at hk;cases ho:h[r]? with
 | none=>simp [ho] at hk
 | some o =>
   simp only [ho] at hk;split at hk
   ·rename_i hc;cases hk;exact ⟨o,rfl,hc,rfl,rfl⟩
   ·cases hk
theorem alloc_wkeep (w:World)(ob:Obj):WKeep w (w.alloc ob) :=
 ⟨fun b arr ty hh=>⟨arr,by rw [Below.heap_alloc _ _ _ (Array.getElem?_eq_some_iff.1 hh).1];exact hh,rfl⟩,
  fun b ents clock hh=>⟨ents,clock,by rw [Below.heap_alloc _ _ _ (Array.getElem?_eq_some_iff.1 hh).1];exact hh,fun i e he=>⟨e,he,rfl⟩⟩,
  fun b o hh _=>by rw [Below.heap_alloc _ _ _ (Array.getElem?_eq_some_iff.1 hh).1];exact hh,by show _≤(w.heap.push ob).size;simp⟩
theorem EP (w:World)(ob:Obj):(w.alloc ob).heap[w.heap.size]? = some ob:=by
 show (w.heap.push ob)[w.heap.size]? = _;simp
theorem alloc_size (w:World)(ob:Obj):(w.alloc ob).heap.size=w.heap.size+1:=by show (w.heap.push ob).size=_;simp
theorem HStep.new {m m':Mem}{h h':List Ob}{s st:Nat}{c:AV}(hk:newOb h s c=some (h',st))(hb:∀r p,r≠s→r<h.length→m'.blk r p=m.blk r p):HStep m m' h h':=by
 obtain ⟨o,ho,hg,rfl,rfl⟩:=A9 hk;intro r2 o2 ho2;by_cases e:r2=s
 ·subst e;rw [ho] at ho2;cases ho2;exact ⟨_,by rw [List.getElem?_set_self (List.lt_of_some ho)],.inl (by simp)⟩
 ·exact ⟨o2,by rw [List.getElem?_set_ne (fun h=>e h.symm)];exact ho2,BQ.same (fun p nd _ _=>hb r2 p e (List.lt_of_some ho2))⟩
theorem Jo {m1:Mem}{h1 h2:List Ob}{cs:List AV}{s st es:Nat}{xs':List AV}{U:Array Value}{ty:TypeId}(hr1:Rel w0 fz0 m1 (h1++JF cs) w)(hpos:0<es)
 (hnew:newOb h1 s (.own es xs')=some (h2,st)) (hes:∀(i:Nat) (e:AV),xs'[i]? = some e→e.cells.length=es) (hU1:∀(j:Nat) (u:Value),U[j]? = some u→u.oneCell'=true) (hUl:xs'.length*es≤U.size)
 (hcell:∀(i j:Nat) (e c:AV),xs'[i]? = some e→e.cells[j]? = some c→∃u,U[i*es+j]? = some u∧c.one=true ∧
   ((isNode c=false∧VRel0 w m1.fz c u)∨(isNode c=true∧cs[i*es+j]? = some c∧CellR w m1 (h1.length+(i*es+j)) [] c u))) :
 ∃m2:Mem,Rel w0 fz0 m2 h2 (w.alloc (.cells U ty))∧HStep m1 m2 h1 h2∧m2.fz=m1.fz∧m2.blk s []=(w.heap.size,0)∧WKeep w (w.alloc (.cells U ty))∧FKeep w (w.alloc (.cells U ty)) m1.fz∧h2.length=h1.length:=by
 obtain ⟨ob,hob,hgone,rfl,rfl⟩:=A9 hnew;have hsl:=List.lt_of_some hob;have hwk:=alloc_wkeep w (.cells U ty);have hfk:FKeep w (w.alloc (.cells U ty)) m1.fz:=by
  intro b off u hb hc;exact (World.cell?_of_block (a:=⟨b,off,none⟩) (Below.heap_alloc w _ b (hr1.fzlt b hb))).trans hc
 let xs0:List AV:=xs'.map fun _=>.agg (List.replicate es .gone);let h0:List Ob:=(h1++JF cs).set s { st:=0,ss:=0,c:=.own es xs0 };have hsl':s<(h1++JF cs).length:=by simp;omega
 have hr2:=hr1.newRoot (h':=h0) (w':=w.alloc (.cells U ty)) s (.own es xs0) (hr1.below.alloc hr1.below.size _) (by rw [alloc_size];omega) (fun k hk=>Below.heap_alloc _ _ _ hk)
  ⟨_,by simp only [h0];rw [List.getElem?_set_self hsl'],rfl⟩
  (.inl ⟨es,xs0,U,ty,rfl,hpos,EP _ _,by simpa [xs0] using hUl,hU1,fun i e he=>by
    simp only [xs0,List.getElem?_map] at he;cases hx:xs'[i]? with
    | none=>simp [hx] at he
    | some e' =>
      simp [hx] at he;subst he;refine ⟨by simp [AV.cells],fun j d hd=>?_⟩;simp only [AV.cells] at hd;exact (List.eq_of_mem_replicate (List.mem_of_getElem? hd))⟩)
  (fun r2 o2 hne ho2 hi=>⟨o2,by simp only [h0] at ho2;rw [List.getElem?_set_ne (fun h=>hne h.symm)] at ho2;exact ho2,rfl⟩)
 have hbs:Bu m1 s (w.heap.size,0) s []=(w.heap.size,0):=by simp [Bu]
 have hbne:∀r p,r≠s→Bu m1 s (w.heap.size,0) r p=m1.blk r p:=fun r p h=>by simp [Bu,h]
 have hn0:nodeAt h0 s []=some (.own es xs0):=Ac.2 ⟨_,by simp only [h0];rw [List.getElem?_set_self hsl'],nav_nil _⟩;let tf:Nat→Nat→Option (Nat×Path):=fun i j=>if i<xs'.length∧j<es then match cs[i*es+j]? with
  | some c=>if isNode c then match (xs'[i]?).bind (·.cells[j]?) with
    | some d=>if isNode d then some (h1.length+(i*es+j),[]) else none
    | none=>none
    else none
  | none=>none
  else none
 have htf:∀i j T q,tf i j=some (T,q)→i<xs'.length∧j<es∧T=h1.length+(i*es+j)∧q = []:=by
  intro i j T q h;simp only [tf] at h;split at h
  ·rename_i hc;split at h
   ·split at h
    ·split at h
     ·split at h
      ·cases h;exact ⟨hc.1,hc.2,rfl,rfl⟩
      ·cases h
     ·cases h
    ·cases h
   ·cases h
  ·cases h
 have hput:=hr2.put (h':=h1.set s { st:=ob.st+1,ss:=0,c:=.own es xs' }) (w':=w.alloc (.cells U ty)) (arr:=U) (arr':=U) (ty:=ty) hn0 hr2.below (Nat.le_refl _) (fun _ _ _=>rfl) (WKeep.refl _)
  (by show (w.alloc (.cells U ty)).heap[(Bu m1 s (w.heap.size,0) s []).1]? = _;rw [hbs];exact EP _ _)
  (by show (w.alloc (.cells U ty)).heap[(Bu m1 s (w.heap.size,0) s []).1]? = _;rw [hbs];exact EP _ _) tf (xs':=xs') hes ?_ ?_ ?_ (.inl rfl) ?_ ?_
 rotate_left
 ·intro i j e c he hc;obtain ⟨u,k1,k2,k3⟩:=hcell i j e c he hc;have hil:=List.lt_of_some he;have hjl:j<es:=by rw [←hes i e he];exact List.lt_of_some hc
  refine ⟨k2,u,?_,hU1 _ _ k1,?_⟩
  ·show U[(Bu m1 s (w.heap.size,0) s []).2+(i*es+j)]? = some u;rw [hbs];simpa using k1
  ·rcases k3 with ⟨k3,k4⟩|⟨kn,k5,k6⟩
   ·refine .inl ⟨?_,k3,?_⟩
    ·cases ht:tf i j with
     | none=>rfl
     | some Tq =>
       exfalso;simp only [tf] at ht;rw [if_pos ⟨hil,hjl⟩] at ht;split at ht
       ·split at ht
        ·rw [he] at ht;simp only [Option.bind_some,hc] at ht;rw [k3] at ht;simp at ht
        ·cases ht
       ·cases ht
    ·have k4':=k4.mono hfk (fun _ h=>h);cases c<;>first|exact k4'|exact True.intro|(simp [isNode] at k3)
   ·refine .inr (.inr ⟨h1.length+(i*es+j),[],?_,?_,kn,?_⟩)
    ·simp only [tf];rw [if_pos ⟨hil,hjl⟩,k5];simp only [kn,if_true];rw [he];simp only [Option.bind_some,hc,kn,if_true]
    ·obtain ⟨o',e1,e2⟩:=Ac.1 (VZ k5 kn h1);refine Ac.2 ⟨o',?_,e2⟩;simp only [h0];rw [List.getElem?_set_ne (by omega)];exact e1
    ·exact k6.mono hwk hfk (fun _ h=>h) (fun _=>hbne _ _ (by omega))
 ·intro i j T q h;obtain ⟨_,_,rfl,_⟩:=htf i j T q h;omega
 ·intro i j i' j' T q T' q' e1 e2 hne;obtain ⟨a1,a2,rfl,rfl⟩:=htf _ _ _ _ e1;obtain ⟨b1,b2,rfl,rfl⟩:=htf _ _ _ _ e2;refine .inl (fun he=>hne ?_);have he:i*es+j=i'*es+j':=by omega
  have hi:i=i':=by
   rcases Nat.lt_trichotomy i i' with h|h|h
   ·have:(i+1)*es≤i'*es:=Nat.mul_le_mul_right _ h;rw [Nat.add_mul] at this;omega
   ·exact h
   ·have:(i'+1)*es≤i*es:=Nat.mul_le_mul_right _ h;rw [Nat.add_mul] at this;omega
  subst hi;have:j=j':=by omega
  subst this;rfl
 ·intro r2 o2 hne ho2 hi2;rw [List.getElem?_set_ne (fun h=>hne h.symm)] at ho2;have hlt2:=List.lt_of_some ho2;refine ⟨o2,?_,rfl,fun i' j' T q h=>?_⟩
  ·simp only [h0];rw [List.getElem?_set_ne (fun h=>hne h.symm),List.getElem?_append_left hlt2];exact ho2
  ·obtain ⟨_,_,rfl,_⟩:=htf i' j' T q h;omega
 ·exact ⟨_,_,by simp only [h0];rw [List.getElem?_set_self hsl'],by rw [List.getElem?_set_self hsl],F7 _ _⟩
 refine ⟨_,hput,HStep.new hnew (fun r p hne _=>?_),rfl,?_,hwk,hfk,by simp⟩
 ·show putBlk { blk:=Bu m1 s (w.heap.size,0),fz:=m1.fz } s [] tf r p=_;rw [HU hne];exact hbne r p hne
 ·show putBlk { blk:=Bu m1 s (w.heap.size,0),fz:=m1.fz } s [] tf s []=_;rw [DY];exact hbs
theorem V7 {h:List Ob}{n:Nat}{v:AV}{vs cs:List AV}(hv:vcells h n v=some vs)(hl:cs.length=vs.length)(h1:∀c∈cs,c.one=true):(R2 v cs).cells=cs:=by
 unfold vcells at hv;split at hv
 ·rfl
 ·rename_i hna;split at hv
  ·cases hv
   match cs,hl with
   | [c],_ =>
     have hc:=AV.one_ne (h1 c (List.mem_cons_self ..));have:R2 v [c]=c:=by
      cases v<;>first|rfl|(exact absurd rfl (hna _))
     rw [this];exact Jr _ hc
  ·cases hv
theorem takeVals_sound (n:Nat):∀(vals:List AV) (us:List Value) (vs':List AV) (h h1 tl:List Ob) (m:Mem),Rel w0 fz0 m (h++tl) w →
 (∀(j:Nat) (d:AV) (u:Value),vals[j]? = some d→us[j]? = some u→VRel w m.fz (RefR w m h L) d u)→us.length=vals.length →
 takeVals h n vals=some (vs',h1) →
 ∃(m1:Mem),m1.fz=m.fz∧Rel w0 fz0 m1 (h1++tl++JF (vs'.flatMap AV.cells)) w∧h1.length=h.length∧HStep m m1 h h1∧(∀r p,r<h.length+tl.length→m1.blk r p=m.blk r p)∧vs'.length=vals.length ∧
  (∀(i:Nat) (e:AV),vs'[i]? = some e→e.cells.length=n)∧(∀(i:Nat) (u:Value),us[i]? = some u→u.cells.size=n) ∧
  (∀(i j:Nat) (e c:AV) (u x:Value),vs'[i]? = some e→e.cells[j]? = some c→us[i]? = some u→u.cells[j]? = some x→c.one=true∧x.oneCell'=true ∧
    ((isNode c=false∧VRel0 w m.fz c x)∨(isNode c=true∧CellR w m1 (h.length+tl.length+(i*n+j)) [] c x))):=by
 intro vals;induction vals with
 | nil =>
   intro us vs' h h1 tl m hr _ hl hk;simp [takeVals] at hk;obtain ⟨rfl,rfl⟩:=hk;have:us = []:=List.eq_nil_of_length_eq_zero hl;subst this;exact ⟨m,rfl,by simpa [JF] using hr,rfl,HStep.refl m h,fun _ _ _=>rfl,rfl,fun i e h=>by simp at h,fun i u h=>by simp at h,fun i j e c u x h=>by simp at h⟩
 | cons v vals ih =>
   intro us vs' h h2 tl m hr hv hlen hk;cases us with
   | nil=>simp at hlen
   | cons u us =>
     simp only [takeVals,takeVal] at hk;cases hvc:vcells h n v with
     | none=>simp [hvc] at hk
     | some vs =>
       simp only [hvc] at hk;cases htk:takeCells h vs with
       | none=>simp [htk] at hk
       | some csh =>
         obtain ⟨cs,h1⟩:=csh;simp only [htk] at hk;cases hrest:takeVals h1 n vals with
         | none=>simp [hrest] at hk
         | some rh =>
           obtain ⟨vs'',h2'⟩:=rh;simp only [hrest,Option.some.injEq,Prod.mk.injEq] at hk;obtain ⟨rfl,rfl⟩:=hk;obtain ⟨v1,v2,v3⟩:=NR (hv 0 v u rfl rfl) hvc;obtain ⟨m1,hfz1,hr1,hl1,hst1,hbk1,hcl1,hall1⟩:=takeCells_sound (w0:=w0) (fz0:=fz0) (L:=L) vs u.cells.toList cs h h1 tl m hr (fun jj d x hd' hu'=>v3 jj d x hd' (by simpa using hu')) (by simp [v1,v2]) htk;have hcn:cs.length=n:=by rw [hcl1,v1]
           have hone:∀c∈cs,c.one=true:=by
            intro c hc;obtain ⟨k,hk1,hk2⟩:=List.mem_iff_getElem.1 hc;have hk3:k<u.cells.toList.length:=by simp [v2];omega
            exact (hall1 k c _ (by rw [List.getElem?_eq_getElem hk1,hk2]) (List.getElem?_eq_getElem hk3)).1
           have hrc:=V7 (cs:=cs) hvc hcl1 hone;have hv':∀(j:Nat) (d:AV) (x:Value),vals[j]? = some d→us[j]? = some x→VRel w m1.fz (RefR w m1 h1 L) d x:=by
            intro j d x hd hx;exact (hv (j+1) d x hd hx).mono (fun _ _ _ _ h=>h) (fun b hb=>hfz1▸hb) (fun v c hrr=>RefR.mono (WKeep.refl w) hst1 (fun _ _ h=>h) hrr)
           obtain ⟨m2,hfz2,hr2,hl2,hst2,hbk2,hvl2,hes2,hus2,hall2⟩:=ih us vs'' h1 h2' (tl++JF cs) m1 (by rw [←List.append_assoc];exact hr1) hv' (by simpa using hlen) hrest;have htl:(JF cs).length=n:=by simp [JF,hcn]
           refine ⟨m2,hfz2.trans hfz1,?_,hl2.trans hl1,hst1.trans hst2,fun r p hrp=>?_,by simp [hvl2],fun i e he=>?_,fun i x hx=>?_,fun i j e c x y he hc hx hy=>?_⟩
           ·rw [List.flatMap_cons,hrc];have:JF (cs++vs''.flatMap AV.cells)=JF cs++JF (vs''.flatMap AV.cells):=by simp [JF]
            rw [this];simpa [List.append_assoc] using hr2
           ·rw [hbk2 r p (by simp;omega),hbk1 r p hrp]
           ·cases i with
            | zero=>simp at he;subst he;rw [hrc];exact hcn
            | succ i=>exact hes2 i e (by simpa using he)
           ·cases i with
            | zero=>simp at hx;subst hx;exact v2
            | succ i=>exact hus2 i x (by simpa using hx)
           ·cases i with
            | zero =>
              simp at he hx;subst he;subst hx;rw [hrc] at hc;obtain ⟨k1,k2,k3⟩:=hall1 j c y hc (by simpa using hy);refine ⟨k1,k2,?_⟩;rcases k3 with k3|⟨kn,hs⟩
              ·exact .inl k3
              ·refine .inr ⟨kn,?_⟩;rw [Nat.zero_mul,Nat.zero_add];have hjn:j<n:=by rw [←hcn];exact List.lt_of_some hc
               exact hs.mono (WKeep.refl w) (fun _ _ _ _ h=>h) (fun b hb=>by rw [hfz2];exact hb) (fun _=>hbk2 _ _ (by simp [htl];omega))
            | succ i =>
              simp at he hx;obtain ⟨k1,k2,k3⟩:=hall2 i j e c x y he hc hx hy;refine ⟨k1,k2,?_⟩;rcases k3 with ⟨k3,k4⟩|⟨kn,hs⟩
              ·exact .inl ⟨k3,hfz1▸k4⟩
              ·refine .inr ⟨kn,?_⟩;have e1:h1.length+(tl++JF cs).length+(i*n+j)=h.length+tl.length+((i+1)*n+j):=by
                simp only [List.length_append,htl];rw [Nat.add_mul];omega
               rw [e1] at hs;exact hs
end
end Go.Mw
namespace Go.Mw
open Go.RowKit
section
variable {P:Program}{sm:List Nat}{o:Oper}{a:Act}{w0:World}{fz0:Nat→Prop}{m:Mem}{w:World}{L:Nat→Nat→Prop}{σ:St}{base:Nat}{i:Ins}{v:AV}{h':List Ob}
theorem EH {w:World}{fz:Nat→Prop}{z:AV}{zv:Value}(h:ofV zv=some z):zv.cells.size=z.cells.length∧∀(j:Nat) (d:AV) (u:Value),z.cells[j]? = some d→zv.cells[j]? = some u→d.one=true∧u.oneCell'=true∧d.plain=true∧VRel0 w fz d u:=by
 unfold ofV at h;split at h
 ·rename_i cs;cases hl:ofL AiJ cs.toList with
  | none=>simp [hl] at h
  | some xs =>
    simp [hl] at h;subst h;obtain ⟨h1,h2⟩:=ofL_rel hl;refine ⟨by simpa [Value.cells,AV.cells] using h1,fun j d u hd hu=>?_⟩;simp only [AV.cells,Value.cells] at hd hu;obtain ⟨g1,g2,g3,g4⟩:=M3 (w:=w) (fz:=fz) (h2 j d u hd (by simpa using hu));exact ⟨g2,g3,g4,g1⟩
 ·obtain ⟨g1,g2,g3,g4⟩:=M3 (w:=w) (fz:=fz) h;have e1:z.cells = [z]:=Jr _ (AV.one_ne g2);have e2:zv.cells = #[zv]:=by cases zv<;>simp_all [Value.cells,Value.oneCell']
  rw [e1,e2];refine ⟨rfl,fun j d u hd hu=>?_⟩;cases j with
  | zero=>simp at hd hu;subst hd;subst hu;exact ⟨g2,g3,g4,g1⟩
  | succ j=>simp at hd
theorem Adb {w:World}{m2:Mem}{h1 h2:List Ob}{r st es:Nat}{xs:List AV}{b:Nat}(hnew:newOb h1 r (.own es xs)=some (h2,st))(hb:m2.blk r []=(b,0)) :
 VRel w m2.fz (RefR w m2 h2 L) (.ptr r st [] 0 0 0) (.pointer (some ⟨b,0,none⟩)):=by
 obtain ⟨ob,hob,_,rfl,rfl⟩:=A9 hnew;refine .ref _ _ rfl ⟨_,List.getElem?_set_self (List.lt_of_some hob),Nat.le_refl _,fun _ h=>absurd rfl h,fun es' xs' hn=>?_⟩;rw [hb];simp
theorem Acs {w:World}{m2:Mem}{h1 h2:List Ob}{r st es:Nat}{xs:List AV}{b:Nat}(hnew:newOb h1 r (.own es xs)=some (h2,st))(hb:m2.blk r []=(b,0)){len cap:Nat}(hlen:len=xs.length)(hcap:len≤cap)
 {U:Array Value}{ty:TypeId}(hw:w.heap[b]? = some (.cells U ty (0,0))) (hU:cap*es≤U.size) :
 VRel w m2.fz (RefR w m2 h2 L) (.sl r st [] 0 0 len) (.slice (some ⟨b,0,none⟩) len cap):=by
 obtain ⟨ob,hob,_,rfl,rfl⟩:=A9 hnew;refine .ref _ _ rfl ⟨_,List.getElem?_set_self (List.lt_of_some hob),Nat.le_refl _,fun _ h=>absurd rfl h,fun es' xs' hn=>?_⟩;obtain ⟨o',e1,_,_,e2⟩:=Bf.1 hn;rw [List.getElem?_set_self (List.lt_of_some hob)] at e1;cases e1;rw [nav_nil] at e2;cases e2;exact ⟨by omega,_,cap,rfl,hcap,.inr ⟨by rw [hb];simp,U,ty,by rw [hb];exact hw,by rw [hb];simpa using hU⟩⟩
theorem AjX (ht:TR w m σ.h L σ.t a.tmps)(hr:Rel w0 fz0 m σ.h w){t:TypeId}{x:Operand}{x':Opd}{s n:Nat}(ho:o.op = .box t x)
 (h1:opd x=some x') (hx:ax base (.box s n x') σ=some (v,h')):OpOk P o a w0 fz0 m σ.h w L v h':=by
 have hb:=ht.get (a:=a) h1;simp only [ax] at hx;split at hx
 ·rename_i hpos;cases htk:takeVal σ.h n (σ.get x') with
  | none=>simp [htk] at hx
  | some vh =>
    obtain ⟨v',hh1⟩:=vh;simp only [htk] at hx;cases hnew:newOb hh1 (base+s) (.own n [v']) with
    | none=>simp [hnew] at hx
    | some hs =>
      obtain ⟨hf,st⟩:=hs;simp only [hnew,Option.some.injEq,Prod.mk.injEq] at hx;obtain ⟨rfl,rfl⟩:=hx;obtain ⟨m1,hfz,hr1,hl1,hst1,hbk1,_,hes,hus,hall⟩:=takeVals_sound (w0:=w0) (fz0:=fz0) (L:=L) n [σ.get x'] [a.eval x] [v'] σ.h hh1 [] m (by simpa using hr)
       (fun j d u hd hu=>by
         cases j with
         | zero=>simp at hd hu;subst hd;subst hu;exact hb
         | succ j=>simp at hd) rfl (by simp [takeVals,htk])
      simp only [List.append_nil,List.length_nil,Nat.add_zero] at hr1 hbk1 hall;have hcn:=hes 0 v' rfl;have hun:=hus 0 _ rfl;have hone:∀(j:Nat) (u:Value),(a.eval x).cells[j]? = some u→u.oneCell'=true:=fun j u hu=>by
       have hlt:j<v'.cells.length:=by rw [hcn,←hun];exact (Array.getElem?_eq_some_iff.1 hu).1
       exact (hall 0 j v' _ (a.eval x) u rfl (List.getElem?_eq_getElem hlt) rfl hu).2.1
      obtain ⟨m2,hr2,hst2,hfz2,hbk2,hwk,hfk,hl2⟩:=Jo (U:=(a.eval x).cells) (ty:=t) hr1 hpos hnew (fun i e he=>hes i e he) hone (by simp [hun])
       (fun i j e c he hc=>by
         cases i with
         | succ i=>simp at he
         | zero =>
           simp at he;subst he;have hlt:j<(a.eval x).cells.size:=by rw [hun,←hcn];exact List.lt_of_some hc
           obtain ⟨k1,k2,k3⟩:=hall 0 j v' c (a.eval x) _ rfl hc rfl (Array.getElem?_eq_getElem hlt);refine ⟨_,by rw [Nat.zero_mul,Nat.zero_add];exact Array.getElem?_eq_getElem hlt,k1,?_⟩;rcases k3 with ⟨k3,k4⟩|⟨kn,k4⟩
           ·exact .inl ⟨k3,hfz▸k4⟩
           ·refine .inr ⟨kn,by simp [hc],?_⟩;rw [hl1];simpa using k4)
      refine ⟨.pointer (some ⟨w.heap.size,0,none⟩),w.alloc (.cells (a.eval x).cells t),m2,.inl ?_,hr2,hst1.trans hst2,hwk,by rw [←hfz];exact hfk,fun b h=>by rw [hfz2,hfz];exact h,by rw [hl2,hl1],Adb hnew hbk2⟩;simp [execOp,ho,Instr.box,newVar,newRow]
 ·cases hx
theorem ok_alc (ht:TR w m σ.h L σ.t a.tmps)(hr:Rel w0 fz0 m σ.h w){t:TypeId}{s n:Nat}{z:AV}(ho:o.op = .alloc t)
 (hz:KL P t=some z) (hx:ax base (.alc s n z) σ=some (v,h')):OpOk P o a w0 fz0 m σ.h w L v h':=by
 obtain ⟨d,zv,hi,hzv,hov⟩:=Eb hz;simp only [ax] at hx;split at hx
 ·rename_i hc;obtain ⟨hcn,hpos,hpl⟩:=hc;cases hnew:newOb σ.h (base+s) (.own n [z]) with
  | none=>simp [hnew] at hx
  | some hs =>
    obtain ⟨hf,st⟩:=hs;simp only [hnew,Option.some.injEq,Prod.mk.injEq] at hx;obtain ⟨rfl,rfl⟩:=hx;obtain ⟨z1,z2⟩:=EH (w:=w) (fz:=m.fz) hov;have hone:∀(j:Nat) (u:Value),zv.cells[j]? = some u→u.oneCell'=true:=fun j u hu=>by
     have hlt:j<z.cells.length:=by rw [←z1];exact (Array.getElem?_eq_some_iff.1 hu).1
     exact (z2 j _ u (List.getElem?_eq_getElem hlt) hu).2.1
    obtain ⟨m2,hr2,hst2,hfz2,hbk2,hwk,hfk,hl2⟩:=Jo (cs:=[]) (U:=zv.cells) (ty:=t) (by simpa [JF] using hr) hpos hnew (fun i e he=>by
     cases i with
     | zero=>simp at he;subst he;exact hcn
     | succ i=>simp at he) hone (by simp [z1,hcn])
     (fun i j e c he hc=>by
       cases i with
       | succ i=>simp at he
       | zero =>
         simp at he;subst he;have hlt:j<zv.cells.size:=by rw [z1];exact List.lt_of_some hc
         obtain ⟨k1,k2,k3,k4⟩:=z2 j c _ hc (Array.getElem?_eq_getElem hlt);exact ⟨_,by rw [Nat.zero_mul,Nat.zero_add];exact Array.getElem?_eq_getElem hlt,k1,.inl ⟨(C4 k3).2,k4⟩⟩)
    refine ⟨.pointer (some ⟨w.heap.size,0,none⟩),w.alloc (.cells zv.cells t),m2,.inl ?_,hr2,hst2,hwk,hfk,fun b h=>by rw [hfz2];exact h,hl2,Adb hnew hbk2⟩;simp [execOp,ho,Instr.alloc,BA hi hzv,newVar,newRow]
 ·cases hx
theorem rep_cells {z:Array Value}(n k:Nat)(hk:0<k)(hz:z.size=k)(i j:Nat)(hi:i<n)(hj:j<k):((Array.range (n*k)).map fun q=>z[q % z.size]!)[i*k+j]? = z[j]? := by
 have hlt:i*k+j<n*k:=by
  have:(i+1)*k≤n*k:=Nat.mul_le_mul_right _ hi;rw [Nat.add_mul] at this;omega
 rw [Array.getElem?_map,Array.getElem?_range,if_pos hlt];simp only [Option.map_some,hz];have:(i*k+j) % k=j:=by rw [Nat.add_comm,Nat.add_mul_mod_self_right,Nat.mod_eq_of_lt hj]
 rw [this];have hjz:j<z.size:=by omega
 rw [getElem!_pos z j hjz,Array.getElem?_eq_getElem hjz]
theorem Ajx (ht:TR w m σ.h L σ.t a.tmps)(hr:Rel w0 fz0 m σ.h w){t e:TypeId}{l c:Operand}{l' c':Opd}{s:Nat}{z:AV}{inf:TypeInfo}(ho:o.op = .makeSlice t l c)
 (hu:P.underlying t=some (.slice e)) (hi:P.info? e=some inf) (hz:KL P e=some z) (hcz:z.cells.length=inf.size) (hpl:z.cells.all AV.plain=true) (h1:opd l=some l') (h2:opd c=some c')
 (hx:ax base (.mks s inf.size inf.bytes z l' c') σ=some (v,h')):OpOk P o a w0 fz0 m σ.h w L v h':=by
 have hb:=ht.get (a:=a) h1;have hd:=ht.get (a:=a) h2;obtain ⟨d,zv,hi',hzv,hov⟩:=Eb hz;rw [hi] at hi';cases hi';simp only [ax] at hx;generalize hg1:σ.get l'=g at hx hb;generalize hg2:σ.get c'=g' at hx hd;split at hx
 ·rename_i q q';split at hx
  ·rename_i hc;obtain ⟨rfl,h0,hmax,hby,hpos⟩:=hc;cases hnew:newOb σ.h (base+s) (.own inf.size (List.replicate q.toNat z)) with
   | none=>simp [hnew] at hx
   | some hs =>
     obtain ⟨hf,st⟩:=hs;simp only [hnew,Option.some.injEq,Prod.mk.injEq] at hx;obtain ⟨rfl,rfl⟩:=hx;obtain ⟨z1,z2⟩:=EH (w:=w) (fz:=m.fz) hov;have hzs:zv.cells.size=inf.size:=by rw [z1,hcz]
     let U:Array Value:=(Array.range (q.toNat*inf.size)).map fun k=>zv.cells[k % zv.cells.size]!;have hUs:U.size=q.toNat*inf.size:=by simp [U]
     have hUget:∀(i j:Nat),i<q.toNat→j<inf.size→U[i*inf.size+j]? = zv.cells[j]? := fun i j hi hj=>rep_cells q.toNat inf.size hpos hzs i j hi hj;have hone0:∀(j:Nat) (u:Value),zv.cells[j]? = some u→u.oneCell'=true:=fun j u hu=>by
      have hlt:j<z.cells.length:=by rw [←z1];exact (Array.getElem?_eq_some_iff.1 hu).1
      exact (z2 j _ u (List.getElem?_eq_getElem hlt) hu).2.1
     have hone:∀(j:Nat) (u:Value),U[j]? = some u→u.oneCell'=true:=fun j u hu=>by
      have hlt:j<q.toNat*inf.size:=by rw [←hUs];exact (Array.getElem?_eq_some_iff.1 hu).1
      have e1:j=(j / inf.size)*inf.size+j % inf.size:=by rw [Nat.mul_comm];exact (Nat.div_add_mod j inf.size).symm
      have e2:j / inf.size<q.toNat:=Nat.div_lt_of_lt_mul (by rw [Nat.mul_comm];exact hlt);rw [e1,hUget _ _ e2 (Nat.mod_lt _ hpos)] at hu;exact hone0 _ _ hu
     obtain ⟨m2,hr2,hst2,hfz2,hbk2,hwk,hfk,hl2⟩:=Jo (cs:=[]) (U:=U) (ty:=e) (by simpa [JF] using hr) hpos hnew (fun i x he=>by
      have:=List.eq_of_mem_replicate (List.mem_of_getElem? he);subst this;exact hcz) hone (by simp [hUs])
      (fun i j x c he hc=>by
        have hil:=List.lt_of_some he;simp at hil;have:=List.eq_of_mem_replicate (List.mem_of_getElem? he);subst this;have hjl:j<inf.size:=by rw [←hcz];exact List.lt_of_some hc
        have hlt:j<zv.cells.size:=by omega
        obtain ⟨k1,k2,k3,k4⟩:=z2 j c _ hc (Array.getElem?_eq_getElem hlt);exact ⟨_,by rw [hUget i j (by omega) hjl];exact Array.getElem?_eq_getElem hlt,k1,.inl ⟨(C4 k3).2,k4⟩⟩)
     refine ⟨.slice (some ⟨w.heap.size,0,none⟩) q.toNat q.toNat,w.alloc (.cells U e),m2,.inl ?_,hr2,hst2,hwk,hfk,fun b h=>by rw [hfz2];exact h,hl2,
      Acs hnew hbk2 (by simp) (Nat.le_refl _) (EP _ _) (by rw [hUs];exact Nat.le_refl _)⟩
     have hwrap:IntKind.i64.wrap q=q:=by
      have:=IntWalk.i64_in q (by omega);exact this
     have hbytes:¬((inf.bytes:Int)*q>2 ^ 48):=by
      have h3:(inf.bytes:Int)*q≤4096*4294967296:=Int.mul_le_mul (by omega) hmax h0 (by omega);omega
     simp only [execOp,ho,Instr.makeSlice,hb.inv_int,hd.inv_int];simp only [Sem.run_bind,run_underlying hu,Result.andThen,asInt,asIntOf,KS hi,hwrap];by_cases hq0:q=0
     ·subst hq0;simp [Ba (P:=P) (t:=e) (n:=inf.size) (by simp [szT,hi]),newRow,U,hwrap];have hr0:Array.range 0 = #[]:=rfl;rw [hr0];simp
     ·have hne:q.toNat*inf.size≠0:=by
       have:0<q.toNat:=by omega
       exact Nat.mul_ne_zero (by omega) (by omega)
      have hneg:¬q<0:=by omega
      have hbytes2:¬(281474976710656<(inf.bytes:Int)*q):=by
       have h3:(inf.bytes:Int)*q≤4096*4294967296:=Int.mul_le_mul (by omega) hmax h0 (by omega);omega
      have hne2:¬q.toNat=0:=by omega
      have hne3:¬inf.size=0:=by omega
      simp [Ba (P:=P) (t:=e) (n:=inf.size) (by simp [szT,hi]),newRow,U,hneg,hbytes2,BA hi hzv,hne2,hne3,hwrap];rw [if_neg hne]
  ·cases hx
 ·cases hx
end
end Go.Mw
