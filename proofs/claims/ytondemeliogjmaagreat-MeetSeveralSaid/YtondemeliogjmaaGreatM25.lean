/- Sorting rows of numbers: pdqsort. -/
import Derived.Test.YtondemeliogjmaaGreatM24
set_option linter.unusedVariables false
set_option linter.unusedSimpArgs false
namespace Go.Mw
set_option maxRecDepth 100000
theorem wp_cut {c d:C}{b:Nat}{σ:St}{Q:Ex→St→Prop}(R:St→Prop)(h1:Wp G c b σ (fun e σ1=>match e with | .nrm=>R σ1|e=>Q e σ1))(h2:∀σ1,R σ1→Wp G d b σ1 Q):Wp G (.seq c d) b σ Q:=by
 rw [wp_seq];refine h1.mono (fun e σ1 h=>?_);cases e with
 | nrm=>exact h2 σ1 h
 | ext i=>exact h
 | ret=>exact h
def Prt (m:List Int)(a c d b:Nat):Prop:=∀i j,a≤i→i<j→j<b→(i<c∨d≤j)→¬m[j]! < m[i]!
theorem Prt.step {m n:List Int}{a c d b c' d':Nat}(h:Prt m a c d b)(hs:SegP m n c d)(hc:a≤c)(hd:d≤b)(h1:c≤c')(h2:d'≤d)(hn:Prt n c c' d' d):Prt n a c' d' b:=by
 intro i j g1 g2 g3 g4;by_cases e1:i<c
 ·rw [hs.out i (.inl e1)];by_cases e2:j<c
  ·rw [hs.out j (.inl e2)];exact h i j g1 g2 g3 (.inl e1)
  ·by_cases e3:d≤j
   ·rw [hs.out j (.inr e3)];exact h i j g1 g2 g3 (.inl e1)
   ·exact hs.all (fun x=>¬x<m[i]!) (fun k k1 k2=>h i k g1 (by omega) (by omega) (.inl e1)) j (by omega) (by omega)
 ·by_cases e3:d≤j
  ·rw [hs.out j (.inr e3)];by_cases e4:d≤i
   ·rw [hs.out i (.inr e4)];exact h i j g1 g2 g3 (.inr e3)
   ·exact hs.all (fun x=>¬m[j]! < x) (fun k k1 k2=>h k j (by omega) (by omega) (by omega) (.inr e3)) i (by omega) (by omega)
  ·exact hn i j (by omega) g2 (by omega) g4
theorem Prt.fin {m n:List Int}{a c d b:Nat}(h:Prt m a c d b)(hs:SegP m n c d)(hc:a≤c)(hcd:c≤d)(hd:d≤b)(hn:Srt ltI n c d):Srt ltI n a b:=by
 have h1:Prt n a d d b:=h.step hs hc hd hcd (Nat.le_refl _) (fun i j g1 g2 g3 g4=>by
  have:=hn i j g1 g2 g3;unfold ltI at this;rw [decide_eq_false_iff_not] at this;exact this)
 intro i j g1 g2 g3;unfold ltI;rw [decide_eq_false_iff_not];exact h1 i j g1 g2 g3 (by omega)
theorem Prt.low {l m:List Int}{a c d b:Nat}(h:Prt m a c d b)(hl:Low l a b)(hs:SegP l m a b)(hc:a≤c)(hd:d≤b):Low m c d:=by
 by_cases e:c=a
 ·subst e;rcases hl.seg hs with h|h
  ·exact .inl h
  ·exact .inr (fun i h1 h2=>h i h1 (by omega))
 ·exact .inr (fun i h1 h2=>h (c-1) i (by omega) (by omega) (by omega) (.inl (by omega)))
def PDs (A:List (Nat×AV))(r st s0 L a b:Nat)(lim:Int)(wb wp:Bool):Prop :=
 AX .undef 0 A = .sl r st [] s0 0 L∧AX .undef 1 A=I a∧AX .undef 2 A=I b∧AX .undef 3 A=I lim∧AX .undef 8 A=Bo wb∧AX .undef 9 A=Bo wp
def PSt (r st ss s0 L:Nat)(H:List Ob)(lp:List Lp)(m:List Int)(a b:Nat)(lim:Int)(wb wp:Bool)(σ:St)(X:List (Nat×AV)→Prop):Prop :=
 ∃A,PDs A r st s0 L a b lim wb wp∧X A∧σ=⟨aT .undef 134 A,dh H r st ss m,lp⟩
theorem Ah3 (d:Nat):∀ {l:List Int}{a b:Nat}{lim:Int},b-a≤d→a≤b→b≤l.length→l.length≤1000000→Low l a b→∀ {t:List AV}{lp:List Lp}{H:List Ob}{r st ss s0 bs:Nat}{K:AV→St→Prop}{L:Nat},l.length=L→r<H.length →
 (∀l',SegP l l' a b→Srt ltI l' a b→K (.tup []) ⟨t,dh H r st ss l',lp⟩)→Bc G Ap [.sl r st [] s0 0 L,I a,I b,I lim] bs [] ⟨t,dh H r st ss l,lp⟩ K:=by
 induction d using Nat.strongRecOn with
 | _ d ih =>
 intro l a b lim hd hab hb hl hlow t lp H r st ss s0 bs K L hL hr hK;subst hL;refine Bs Dd rfl ?_;rw [A6 (by simp)];simp only [go_sem,↓reduceIte,↓Aa,BQ];refine Ac (fun (g:Nat×Nat×Int×Bool×Bool×List Int) σ=>(a≤g.1∧g.1≤g.2.1∧g.2.1≤b)∧SegP l g.2.2.2.2.2 a b∧Prt g.2.2.2.2.2 a g.1 g.2.1 b∧σ=⟨aT .undef 134 [(0,.sl r st [] s0 0 l.length),(1,I g.1),(2,I g.2.1),(3,I g.2.2.1),(8,Bo g.2.2.2.1),(9,Bo g.2.2.2.2.1)],dh H r st ss g.2.2.2.2.2,lp⟩) (fun g=>g.2.1-g.1) ?_ (a,b,lim,true,true,l) ?_
 ·rintro ⟨a',b',lim,wb,wp,m⟩ σ ⟨⟨ha,hab',hb'⟩,hm,hp,rfl⟩ N Q hQ hN;simp only at ha hab' hb' hm hp ⊢;have hml:=hm.len;have hlow':=hp.low hlow hm ha hb';have w1:IntKind.i64.wrap ((b':Int)-(a':Int))=((b'-a':Nat):Int):=by rw [As]<;>omega
  rw [wp_blk];refine wp_cut (fun σ=>PSt r st ss s0 l.length H lp m a' b' lim wb wp σ (fun A=>AX .undef 10 A=I (b'-a':Nat))) ?_ ?_
  ·simp only [go_sem,↓reduceIte,↓Aa,w1];refine ⟨_,⟨?_,?_,?_,?_,?_,?_⟩,?_,rfl⟩<;>simp only [go_sem,↓reduceIte,↓Aa]
  rintro σ ⟨A,⟨h0,h1,h2,h3,h4,h5⟩,h6,rfl⟩;refine wp_cut (fun σ=>12<b'-a'∧PSt r st ss s0 l.length H lp m a' b' lim wb wp σ (fun A=>AX .undef 10 A=I (b'-a':Nat))) ?_ ?_
  ·by_cases h12:b'-a'≤12
   ·have h12':((b'-a':Nat):Int)≤12:=by omega
    subst hQ;simp only [go_sem,↓reduceIte,↓Aa,h0,h1,h2,h3,h4,h5,h6,h12'];refine Ag3 hab' (by omega) (by omega) hml hr (fun n hn hs=>?_);simp only [go_sem,↓reduceIte,↓Aa];exact hK n (hm.tr (hn.wide ha hb')) (hp.fin hn ha hab' hb' hs)
   ·have h12':¬((b'-a':Nat):Int)≤12:=by omega
    simp only [go_sem,↓reduceIte,↓Aa,h0,h1,h2,h3,h4,h5,h6,h12'];refine ⟨by omega,_,⟨?_,?_,?_,?_,?_,?_⟩,?_,rfl⟩<;>simp only [go_sem,↓reduceIte,↓Aa,h0,h1,h2,h3,h4,h5,h6]
  rintro σ ⟨h12,A,⟨h0,h1,h2,h3,h4,h5⟩,h6,rfl⟩;refine wp_cut (fun σ=>PSt r st ss s0 l.length H lp m a' b' lim wb wp σ (fun A=>AX .undef 10 A=I (b'-a':Nat))) ?_ ?_
  ·subst hQ;simp only [go_sem,↓reduceIte,↓Aa,h0,h1,h2,h3,h4,h5,h6];refine ⟨fun _=>?_,fun _=>?_⟩
   ·refine AeG (by omega) (by omega) (by omega) hml hr (fun n hn hs=>?_);simp only [go_sem,↓reduceIte,↓Aa];exact hK n (hm.tr (hn.wide ha hb')) (hp.fin hn ha hab' hb' hs)
   ·refine ⟨_,⟨?_,?_,?_,?_,?_,?_⟩,?_,rfl⟩<;>simp only [go_sem,↓reduceIte,↓Aa,h0,h1,h2,h3,h4,h5,h6]
  rintro σ ⟨A,⟨h0,h1,h2,h3,h4,h5⟩,h6,rfl⟩;refine wp_cut (fun σ=>∃m2 lim2,SegP m m2 a' b'∧PSt r st ss s0 l.length H lp m2 a' b' lim2 wb wp σ (fun A=>AX .undef 10 A=I (b'-a':Nat))) ?_ ?_
  ·simp only [go_sem,↓reduceIte,↓Aa,h0,h1,h2,h3,h4,h5,h6];refine ⟨fun _=>?_,fun _=>?_⟩
   ·refine AhU (by omega) (by omega) (by omega) (by omega) hml hr (fun n hn=>?_);simp only [go_sem,↓reduceIte,↓Aa,h3];refine ⟨n,IntKind.i64.wrap (lim-1),hn,_,⟨?_,?_,?_,?_,?_,?_⟩,?_,rfl⟩<;>simp only [go_sem,↓reduceIte,↓Aa,h0,h1,h2,h3,h4,h5,h6]
   ·refine ⟨m,lim,SegP.refl,_,⟨?_,?_,?_,?_,?_,?_⟩,?_,rfl⟩<;>simp only [go_sem,↓reduceIte,↓Aa,h0,h1,h2,h3,h4,h5,h6]
  clear h0 h1 h2 h3 h4 h5 h6 A;rintro σ ⟨m2,lim2,hm2,A,⟨h0,h1,h2,h3,h4,h5⟩,h6,rfl⟩;have hml2:m2.length=l.length:=hm2.len.trans hml;have hle:l.length≤m2.length:=by omega
  have hv:List.map frz (List.take l.length (List.map I m2))=List.map I m2:=by
   rw [List.take_of_length_le (by simp;omega),List.map_map];rfl
  obtain ⟨v,⟨p,hint,rfl,hp1,hp2⟩,hpv⟩:=Ahd (l:=m2) (a:=a') (b:=b') (by omega) (by omega) (by omega) (by omega);have hpr:∀ {fr:Bool}{roots:List Nat}{b'':Nat}{ss:List Nat}{σ:St}{k:AV→St→Prop},callT G An [.lst (m2.map I),.int .i64 (a':Int),.int .i64 (b':Int)] fr roots b'' ss σ k=k (.tup [I p,I hint]) σ:=hpv.rule;refine wp_cut (fun σ=>PSt r st ss s0 l.length H lp m2 a' b' lim2 wb wp σ (fun A=>AX .undef 10 A=I (b'-a':Nat)∧AX .undef 11 A=I p∧AX .undef 12 A=I hint)) ?_ ?_
  ·simp only [go_sem,↓reduceIte,↓Aa,h0,h1,h2,h3,h4,h5,h6,hpr,hle,hv,AW hr];refine ⟨_,⟨?_,?_,?_,?_,?_,?_⟩,⟨?_,?_,?_⟩,rfl⟩<;>simp only [go_sem,↓reduceIte,↓Aa,h0,h1,h2,h3,h4,h5,h6]
  clear h0 h1 h2 h3 h4 h5 h6 A;rintro σ ⟨A,⟨h0,h1,h2,h3,h4,h5⟩,⟨h6,h7,h8⟩,rfl⟩;refine wp_cut (fun σ=>∃m3 p hint,SegP m m3 a' b'∧(a'≤p∧p<b')∧PSt r st ss s0 l.length H lp m3 a' b' lim2 wb wp σ (fun A=>AX .undef 10 A=I (b'-a':Nat)∧AX .undef 11 A=I (p:Nat)∧AX .undef 12 A=I hint)) ?_ ?_
  ·have wq1:IntKind.i64.wrap ((b':Int)-1)=((b'-1:Nat):Int):=by rw [As]<;>omega
   have wq2:IntKind.i64.wrap ((p:Int)-(a':Int))=((p-a':Nat):Int):=by rw [As]<;>omega
   have wq3:IntKind.i64.wrap (((b'-1:Nat):Int)-((p-a':Nat):Int))=((b'-1-(p-a'):Nat):Int):=by rw [As]<;>omega
   simp only [go_sem,↓reduceIte,↓Aa,h0,h1,h2,h3,h4,h5,h6,h7,h8];refine ⟨fun _=>?_,fun _=>?_⟩
   ·refine Ag6 (by omega) (by omega) (by omega) hml2 hr (fun n hn=>?_);simp only [go_sem,↓reduceIte,↓Aa,h1,h2,h7,wq1,wq2,wq3];refine ⟨n,b'-1-(p-a'),1,hm2.tr hn,⟨by omega,by omega⟩,_,⟨?_,?_,?_,?_,?_,?_⟩,⟨?_,?_,?_⟩,rfl⟩<;>simp only [go_sem,↓reduceIte,↓Aa,h0,h1,h2,h3,h4,h5,h6]
   ·refine ⟨m2,p,hint,hm2,⟨hp1,hp2⟩,_,⟨?_,?_,?_,?_,?_,?_⟩,⟨?_,?_,?_⟩,rfl⟩<;>simp only [go_sem,↓reduceIte,↓Aa,h0,h1,h2,h3,h4,h5,h6,h7,h8]
  clear h0 h1 h2 h3 h4 h5 h6 h7 h8 A hp1 hp2 hpr hpv hint p hv hle hml2 hm2 m2;rintro σ ⟨m2,p,hint,hm2,⟨hp1,hp2⟩,A,⟨h0,h1,h2,h3,h4,h5⟩,⟨h6,h7,h8⟩,rfl⟩;have hml2:m2.length=l.length:=hm2.len.trans hml;refine wp_cut (fun σ=>∃m3,SegP m m3 a' b'∧PSt r st ss s0 l.length H lp m3 a' b' lim2 wb wp σ (fun A=>AX .undef 10 A=I (b'-a':Nat)∧AX .undef 11 A=I (p:Nat))) ?_ ?_
  ·subst hQ;have out:∀A,PDs A r st s0 l.length a' b' lim2 wb wp→AX .undef 10 A=I (b'-a':Nat)→AX .undef 11 A=I p→∃m3,SegP m m3 a' b'∧PSt r st ss s0 l.length H lp m3 a' b' lim2 wb wp ⟨aT .undef 134 A,dh H r st ss m2,lp⟩ (fun A=>AX .undef 10 A=I (b'-a':Nat)∧AX .undef 11 A=I (p:Nat)) :=
    fun A g1 g2 g3=>⟨m2,hm2,A,g1,⟨g2,g3⟩,rfl⟩
   cases wb with
   | false =>
     simp only [go_sem,↓reduceIte,↓Aa,h0,h1,h2,h3,h4,h5,h6,h7,h8];refine out _ ⟨?_,?_,?_,?_,?_,?_⟩ ?_ ?_<;>simp only [go_sem,↓reduceIte,↓Aa,h0,h1,h2,h3,h4,h5,h6,h7,h8]
   | true =>
     cases wp with
     | false =>
       simp only [go_sem,↓reduceIte,↓Aa,h0,h1,h2,h3,h4,h5,h6,h7,h8];refine out _ ⟨?_,?_,?_,?_,?_,?_⟩ ?_ ?_<;>simp only [go_sem,↓reduceIte,↓Aa,h0,h1,h2,h3,h4,h5,h6,h7,h8]
     | true =>
       simp only [go_sem,↓reduceIte,↓Aa,h0,h1,h2,h3,h4,h5,h6,h7,h8];refine ⟨fun _=>?_,fun _=>?_⟩
       ·refine AiF (by omega) (by omega) (by omega) (hlow'.seg hm2) hml2 hr (fun n q hn hq=>?_);cases q with
        | true =>
          simp only [go_sem,↓reduceIte,↓Aa];have:=hm2.tr hn;exact hK n (hm.tr (this.wide ha hb')) (hp.fin this ha hab' hb' (hq rfl))
        | false =>
          simp only [go_sem,↓reduceIte,↓Aa];refine ⟨n,hm2.tr hn,_,⟨?_,?_,?_,?_,?_,?_⟩,⟨?_,?_⟩,rfl⟩<;>simp only [go_sem,↓reduceIte,↓Aa,h0,h1,h2,h3,h4,h5,h6,h7,h8]
       ·refine out _ ⟨?_,?_,?_,?_,?_,?_⟩ ?_ ?_<;>simp only [go_sem,↓reduceIte,↓Aa,h0,h1,h2,h3,h4,h5,h6,h7,h8]
  clear h0 h1 h2 h3 h4 h5 h6 h7 h8 A hml2 hm2 m2 hint;rintro σ ⟨m2,hm2,A,⟨h0,h1,h2,h3,h4,h5⟩,⟨h6,h7⟩,rfl⟩;have hml2:m2.length=l.length:=hm2.len.trans hml;have hlow2:=hlow'.seg hm2;have hp2':=hp.step hm2 ha hb' (Nat.le_refl _) (Nat.le_refl _) (fun i j g1 g2 g3 g4=>by omega);refine wp_cut (fun σ=>PSt r st ss s0 l.length H lp m2 a' b' lim2 wb wp σ (fun A=>AX .undef 10 A=I (b'-a':Nat)∧AX .undef 11 A=I (p:Nat))) ?_ ?_
  ·have w2:IntKind.i64.wrap ((a':Int)-1)=((a'-1:Nat):Int)∨a'=0:=by
    by_cases e:a'=0
    ·exact .inr e
    ·refine .inl ?_;rw [As]<;>omega
   have b1:p<l.length:=by omega
   have b2:a'-1<l.length:=by omega
   have b1':p<m2.length:=by omega
   have b2':a'-1<m2.length:=by omega
   by_cases h0a:a'=0
   ·have hn:¬(0:Int)<(a':Int):=by omega
    simp only [go_sem,↓reduceIte,↓Aa,h0,h1,h2,h3,h4,h5,h6,h7,hn];refine ⟨_,⟨?_,?_,?_,?_,?_,?_⟩,⟨?_,?_⟩,rfl⟩<;>simp only [go_sem,↓reduceIte,↓Aa,h0,h1,h2,h3,h4,h5,h6,h7]
   ·have hn:(0:Int)<(a':Int):=by omega
    have w2:IntKind.i64.wrap ((a':Int)-1)=((a'-1:Nat):Int):=by rw [As]<;>omega
    by_cases hlt:m2[a'-1]! < m2[p]!
    ·simp only [go_sem,↓reduceIte,↓Aa,h0,h1,h2,h3,h4,h5,h6,h7,hn,w2,Int.ofNat_lt,b1,b2,b1',b2',AW hr,hlt];refine ⟨_,⟨?_,?_,?_,?_,?_,?_⟩,⟨?_,?_⟩,rfl⟩<;>simp only [go_sem,↓reduceIte,↓Aa,h0,h1,h2,h3,h4,h5,h6,h7]
    ·simp only [go_sem,↓reduceIte,↓Aa,h0,h1,h2,h3,h4,h5,h6,h7,hn,w2,Int.ofNat_lt,b1,b2,b1',b2',AW hr,hlt];refine AhF hp1 hp2 (by omega) (by omega) hml2 hr (fun n i hn=>?_);simp only [go_sem,↓reduceIte,↓Aa];have q1:=hn.ai;have q2:=hn.ib;refine hN (i,b',lim2,wb,wp,n) _ (by simp only;omega) ⟨⟨by simp only;omega,hn.ib,hb'⟩,hm.tr ((hm2.tr hn.seg).wide ha hb'),?_,?_⟩
     ·refine hp2'.step hn.seg ha hb' (by simp only;omega) (Nat.le_refl _) ?_;intro x y g1 g2 g3 g4;show ¬n[y]! < n[x]!;simp only at g4;have hxi:x<i:=by omega
      have hx:=hn.lo x g1 hxi;have hy:¬n[y]! < m2[p]!:=by
       rcases hlow2 with h|h
       ·omega
       ·exact hn.seg.all (fun z=>¬z<m2[p]!) (fun k k1 k2=>by have:=h k k1 k2;omega) y (by omega) g3
      exact fun hyx=>by omega
     ·simp only [go_sem,↓reduceIte,↓Aa,h0,h1,h2,h3,h4,h5]
  clear h0 h1 h2 h3 h4 h5 h6 h7 A;rintro σ ⟨A,⟨h0,h1,h2,h3,h4,h5⟩,⟨h6,h7⟩,rfl⟩;simp only [go_sem,↓reduceIte,↓Aa,h0,h1,h2,h3,h4,h5,h6,h7];refine Aet hp1 hp2 (by omega) (by omega) hml2 hr (fun n j v hn=>?_);have q1:=hn.aj;have q2:=hn.jb;have hnl:n.length=l.length:=hn.seg.len.trans hml2;have x1:IntKind.i64.wrap ((j:Int)-(a':Int))=((j-a':Nat):Int):=by rw [As]<;>omega
  have x2:IntKind.i64.wrap ((b':Int)-(j:Int))=((b'-j:Nat):Int):=by rw [As]<;>omega
  have x3:IntKind.i64.wrap ((j:Int)+1)=((j+1:Nat):Int):=by rw [As]<;>omega
  simp only [go_sem,↓reduceIte,↓Aa,h0,h1,h2,h3,h4,h5,h6,h7,x1,x2,x3];have key:∀x,a'≤x→x<j→n[x]! < n[j]!:=fun x g1 g2=>by
   have:=hn.lo x g1 g2;unfold ltI at this;rw [decide_eq_true_eq] at this;exact this
  have key2:∀x,j<x→x<b'→¬n[x]! < n[j]!:=fun x g1 g2=>by
   have:=hn.hi x g1 g2;unfold ltI at this;rw [decide_eq_false_iff_not] at this;exact this
  refine ⟨fun _=>?_,fun _=>?_⟩
  ·refine ih (j-a') (by omega) (Nat.le_refl _) q1 (by omega) (by omega) ?_ hnl hr (fun n2 hn2 hs2=>?_)
   ·rcases hlow2.seg hn.seg with h|h
    ·exact .inl h
    ·exact .inr (fun i h1 h2=>h i h1 (by omega))
   ·simp only [go_sem,↓reduceIte,↓Aa,x3,h0,h2,h3];refine hN (j+1,b',lim2,decide (IntKind.i64.wrap (((b'-a':Nat):Int).tdiv 8)≤((j-a':Nat):Int)),v,n2) _ (by simp only;omega) ⟨⟨by simp only;omega,by simp only;omega,hb'⟩,hm.tr ((hm2.tr (hn.seg.tr (hn2.wide (Nat.le_refl _) (by omega)))).wide ha hb'),?_,?_⟩
    ·refine hp2'.step (hn.seg.tr (hn2.wide (Nat.le_refl _) (by omega))) ha hb' (by simp only;omega) (Nat.le_refl _) ?_;intro x y g1 g2 g3 g4;show ¬n2[y]! < n2[x]!;simp only at g4;have hxj:x<j+1:=by omega
     have hy:∀y,j≤y→n2[y]! = n[y]!:=fun y hy=>hn2.out y (.inr hy);by_cases e:x=j
     ·rw [e,hy y (by omega),hy j (Nat.le_refl _)];exact key2 y (by omega) g3
     ·have hx:n2[x]! < n[j]!:=hn2.all (fun z=>z<n[j]!) (fun k k1 k2=>key k k1 k2) x g1 (by omega);by_cases e2:y<j
      ·have:=hs2 x y g1 g2 e2;unfold ltI at this;rw [decide_eq_false_iff_not] at this;exact this
      ·rw [hy y (by omega)];by_cases e3:y=j
       ·rw [e3];exact fun h=>by omega
       ·have:=key2 y (by omega) g3;exact fun h=>by omega
    ·simp only [go_sem,↓reduceIte,↓Aa,h0,h2,h3]
  ·refine ih (b'-(j+1)) (by omega) (Nat.le_refl _) (by omega) (by omega) (by omega) ?_ hnl hr (fun n2 hn2 hs2=>?_)
   ·exact .inr (fun i h1 h2=>key2 i (by omega) h2)
   ·simp only [go_sem,↓reduceIte,↓Aa,h0,h1,h3];refine hN (a',j,lim2,decide (IntKind.i64.wrap (((b'-a':Nat):Int).tdiv 8)≤((b'-j:Nat):Int)),v,n2) _ (by simp only;omega) ⟨⟨ha,by simp only;omega,by simp only;omega⟩,hm.tr ((hm2.tr (hn.seg.tr (hn2.wide (by omega) (Nat.le_refl _)))).wide ha hb'),?_,?_⟩
    ·refine hp2'.step (hn.seg.tr (hn2.wide (by omega) (Nat.le_refl _))) ha hb' (Nat.le_refl _) (by simp only;omega) ?_;intro x y g1 g2 g3 g4;show ¬n2[y]! < n2[x]!;simp only at g4;have hjy:j≤y:=by omega
     have hx:∀x,x≤j→n2[x]! = n[x]!:=fun x hx=>hn2.out x (.inl (by omega));by_cases e:y=j
     ·rw [e,hx x (by omega),hx j (Nat.le_refl _)];have:=key x g1 (by omega);exact fun h=>by omega
     ·have hy:¬n2[y]! < n[j]!:=hn2.all (fun z=>¬z<n[j]!) (fun k k1 k2=>key2 k (by omega) k2) y (by omega) g3;by_cases e2:j<x
      ·have:=hs2 x y (by omega) g2 g3;unfold ltI at this;rw [decide_eq_false_iff_not] at this;exact this
      ·rw [hx x (by omega)];by_cases e3:x=j
       ·rw [e3];exact hy
       ·have:=key x g1 (by omega);exact fun h=>by omega
    ·simp only [go_sem,↓reduceIte,↓Aa,h0,h1,h3]
 ·refine ⟨⟨Nat.le_refl _,hab,Nat.le_refl _⟩,SegP.refl,fun i j g1 g2 g3 g4=>by simp only at g4;omega,?_⟩;simp only [go_sem,↓reduceIte,↓Aa]
theorem XU {l:List Int}(hl:l.length≤1000000){t:List AV}{lp:List Lp}{H:List Ob}{r st ss s0 bs:Nat}{K:AV→St→Prop}{L:Nat}(hL:l.length=L)(hr:r<H.length)
 (hK:∀l',SegP l l' 0 l.length→Srt ltI l' 0 l.length→K (.tup []) ⟨t,dh H r st ss l',lp⟩):Bc G Cm [.sl r st [] s0 0 L] bs [] ⟨t,dh H r st ss l,lp⟩ K:=by
 subst hL;refine Bs Jv rfl ?_;rw [A6 (by simp)];obtain ⟨v,g1,g2,g3⟩:=Xr l.length hl;have hr':∀ {fr:Bool}{roots:List Nat}{b:Nat}{ss:List Nat}{σ:St}{k:AV→St→Prop},callT G Bq [.int .u64 (l.length:Int)] fr roots b ss σ k=k (I v) σ:=g3.rule;simp only [go_sem,↓reduceIte,↓Aa,ER,OB hl,hr',AW hr];refine Ah3 l.length (l:=l) (a:=0) (b:=l.length) (by omega) (by omega) (Nat.le_refl _) hl (.inl rfl) rfl hr (fun l' h1 h2=>?_);simp only [go_sem,↓reduceIte,↓Aa];exact hK l' h1 h2
theorem Af5 {v:AV}{t:List AV}{h:List Ob}{lp:List Lp}{bs:Nat}{K:AV→St→Prop}(hK:K (.tup []) ⟨t,h,lp⟩):Bc G Aw [v,I 0,I 0] bs [] ⟨t,h,lp⟩ K:=by
 refine Bs Cb rfl ?_;rw [A6 (by simp)];have w1:IntKind.i64.wrap 1=1:=by decide
 simp only [go_sem,↓reduceIte,↓Aa,Bk,w1];refine Ac (fun (_:Unit) σ=>σ=⟨aT .undef 49 [(0,v),(1,I 0),(2,I 0),(6,I 1)],h,lp⟩) (fun _=>0) ?_ () ?_
 ·rintro _ σ rfl N Q hQ hN;subst hQ;have h0:¬(1:Int)<0:=by decide
  have ht:List.take h.length h=h:=List.take_length;simp only [go_sem,↓reduceIte,↓Aa,h0,ht];exact hK
 ·simp only [go_sem,↓reduceIte,↓Aa,w1]
theorem AgH {v:AV}{n:Int}{t:List AV}{h:List Ob}{lp:List Lp}{bs:Nat}{K:AV→St→Prop}(hK:K (.tup []) ⟨t,h,lp⟩):Bc G Ap [v,I 0,I 0,I n] bs [] ⟨t,h,lp⟩ K:=by
 refine Bs Dd rfl ?_;rw [A6 (by simp)];have w1:IntKind.i64.wrap 0=0:=by decide
 have ht:List.take h.length h=h:=List.take_length;simp only [go_sem,↓reduceIte,↓Aa,BQ];refine Ac (fun (_:Unit) σ=>σ=⟨aT .undef 134 [(0,v),(1,I 0),(2,I 0),(3,I n),(8,Bo true),(9,Bo true)],h,lp⟩) (fun _=>0) ?_ () ?_
 ·rintro _ σ rfl N Q hQ hN;subst hQ;have h0:(0:Int)≤12:=by decide
  simp only [go_sem,↓reduceIte,↓Aa,Int.sub_self,w1,h0];refine Af5 ?_;simp only [go_sem,↓reduceIte,↓Aa,ht];exact hK
 ·simp only [go_sem,↓reduceIte,↓Aa]
theorem Adu {v:AV}(hv:v = .nils∨v = .emp){t:List AV}{h:List Ob}{lp:List Lp}{bs:Nat}{K:AV→St→Prop}(hK:K (.tup []) ⟨t,h,lp⟩):Bc G Cm [v] bs [] ⟨t,h,lp⟩ K:=by
 refine Bs Jv rfl ?_;rw [A6 (by simp)];obtain ⟨n,_,_,g3⟩:=Xr 0 (by omega);have hr':∀ {fr:Bool}{roots:List Nat}{b:Nat}{ss:List Nat}{σ:St}{k:AV→St→Prop},callT G Bq [.int .u64 0] fr roots b ss σ k=k (I n) σ:=g3.rule;have wu:IntKind.u64.wrap 0=0:=by decide
 have ht:List.take h.length h=h:=List.take_length;rcases hv with rfl|rfl
 all_goals
  simp only [go_sem,↓reduceIte,↓Aa,ER,wu,hr'];refine AgH ?_;simp only [go_sem,↓reduceIte,↓Aa,ht];exact hK
theorem Agr {l m:List Int}(hl:l.Pairwise (· < ·))(hm:m.Pairwise (· < ·))(h:∀v,v∈l↔v∈m):l=m:=by
 have hp:l.Perm m:=(List.perm_ext_iff_of_nodup (hl.imp fun h e=>by omega) (hm.imp fun h e=>by omega)).2 h;exact List.Perm.eq_of_pairwise (le:=fun a b:Int=>a≤b) (fun a b _ _ h1 h2=>Int.le_antisymm h1 h2) (hl.imp fun h=>by omega) (hm.imp fun h=>by omega) hp
theorem XW {l:List Int}{k i:Nat}(h:i<k)(hl:k≤l.length):(l.take k)[i]! = l[i]!:=by
 rw [getElem!_pos _ i (by rw [List.length_take];omega),List.getElem_take,getElem!_pos l i (by omega)]
theorem Ab2 {l:List Int}{k i:Nat}{v:Int}(hk:k<l.length):(l.set k v)[i]! = if k=i then v else l[i]!:=LK hk
structure Cpt (l m:List Int)(k n:Nat):Prop where
 len:m.length=l.length
 k1:k<n
 n1:n≤l.length
 k0:0<k
 pw:(m.take k).Pairwise (· < ·)
 mem:∀v,v∈m.take k↔v∈l.take n
 rest:∀j,n≤j+1→j<l.length→m[j]! = l[j]!
theorem Cpt.skip {l m:List Int}{k n:Nat}(h:Cpt l m k n)(hn:n<l.length)(he:l[n]! = l[n-1]!):Cpt l m k (n+1):=by
 have hk:=h.k1;have hk0:=h.k0;refine ⟨h.len,by omega,by omega,h.k0,h.pw,fun v=>?_,fun j hj hjl=>h.rest j (by omega) hjl⟩;rw [List.take_succ_eq_append_getElem hn,List.mem_append,List.mem_singleton,←h.mem v,←getElem!_pos l n hn,he];constructor
 ·exact .inl
 ·rintro (h1|rfl)
  ·exact h1
  ·rw [h.mem,List.mem_take_iff_getElem];exact ⟨n-1,by omega,by rw [getElem!_pos l (n-1) (by omega)]⟩
theorem Cpt.step {l m:List Int}{k n:Nat}(h:Cpt l m k n)(hs:∀i j,i<j→j<l.length→l[i]!≤l[j]!)(hn:n<l.length)(he:l[n]!≠l[n-1]!):Cpt l (m.set k l[n]!) (k+1) (n+1):=by
 have hk:=h.k1;have hk0:=h.k0;have hl:=h.len;have ht:(m.set k l[n]!).take (k+1)=m.take k++[l[n]!]:=by
  rw [List.take_succ_eq_append_getElem (by rw [List.length_set];omega),List.getElem_set_self];congr 1;apply List.ext_getElem?;intro i;rw [List.getElem?_take,List.getElem?_take];split
  ·rw [List.getElem?_set_ne (by omega)]
  ·rfl
 refine ⟨by rw [List.length_set];exact hl,by omega,by omega,by omega,?_,fun v=>?_,fun j hj hjl=>?_⟩
 ·rw [ht,List.pairwise_append];refine ⟨h.pw,by simp,fun a ha b hb=>?_⟩;rw [List.mem_singleton] at hb;subst hb;have:=(h.mem a).1 ha;obtain ⟨i,hi,e⟩:=List.mem_take_iff_getElem.1 this;have e2:a=l[i]!:=by rw [getElem!_pos l i (by omega)];exact e.symm
  rw [e2];have h1:=hs (n-1) n (by omega) hn;have h2:l[i]!≤l[n-1]!:=by
   rcases Nat.lt_or_eq_of_le (show i≤n-1 by omega) with h3|rfl
   ·exact hs i (n-1) h3 (by omega)
   ·omega
  omega
 ·rw [ht,List.mem_append,List.mem_singleton,h.mem,List.take_succ_eq_append_getElem hn,List.mem_append,List.mem_singleton,getElem!_pos l n hn]
 ·rw [Ab2 (by omega),if_neg (by omega)];exact h.rest j (by omega) hjl
theorem Cpt.start {l:List Int}{k:Nat}(hk0:0<k)(hk:k<l.length)(hlt:∀i,0<i→i<k→l[i-1]!≠l[i]!)(hs:∀i j,i<j→j<l.length→l[i]!≤l[j]!)(he:l[k]! = l[k-1]!):Cpt l l k (k+1):=by
 refine ⟨rfl,by omega,by omega,hk0,?_,fun v=>?_,fun j _ _=>rfl⟩
 ·refine FZ fun i hi h0=>?_;rw [List.length_take] at hi;rw [XW (by omega) (by omega),XW (by omega) (by omega)];have:=hs (i-1) i (by omega) (by omega);have:=hlt i h0 (by omega);omega
 ·rw [List.take_succ_eq_append_getElem hk,List.mem_append,List.mem_singleton,←getElem!_pos l k hk,he];constructor
  ·exact .inl
  ·rintro (h1|rfl)
   ·exact h1
   ·rw [List.mem_take_iff_getElem];exact ⟨k-1,by omega,by rw [getElem!_pos l (k-1) (by omega)]⟩
theorem Aah {z:AV}{x:Opd}{b:Nat}{t:List AV}{lp:List Lp}{H:List Ob}{r st ss s0 off len:Nat}{l:List Int}{k:AV→St→Prop}(hr:r<H.length)(hz:z.plain=true)(hl:off+len≤l.length)
 (hx:(⟨t,dh H r st ss l,lp⟩:St).get x = .sl r st [] s0 off len) (z0:Int) (hz0:z=I z0) :
 wpI G (.clr z x) b ⟨t,dh H r st ss l,lp⟩ k=k (.tup []) ⟨t,dh H r st ss (l.take off++List.replicate len z0++l.drop (off+len)),lp⟩:=by
 subst hz0;have hn:node (dh H r st ss l) r st [] s0=some (.own 1 (l.map I)):=AaH.2 ⟨_,AW hr,rfl,rfl⟩;have hp:(l.map I).all AV.plain=true:=by rw [List.all_eq_true];intro e he;obtain ⟨n,_,rfl⟩:=List.mem_map.1 he;rfl
 have hs:setOb (dh H r st ss l) r [] (.own 1 ((l.map I).take off++List.replicate len (I z0)++(l.map I).drop (off+len))) false=some (dh H r st ss (l.take off++List.replicate len z0++l.drop (off+len))):=by
  simp only [setOb,AW hr,upd];congr 1;unfold dh;rw [List.set_set];simp [List.map_take,List.map_drop]
 simp only [wpI,ax,hx,hn];rw [if_pos ⟨trivial,by simpa using hl,hp,hz⟩,hs];rfl
theorem OK {B r st ss off len:Nat}{p:Path}{h:List Ob}(hr:r<B):treeB B h (.sl r st p ss off len) = .sl r st p ss off len:=by
 simp only [treeB,hr,if_true]
theorem AfT {l:List Int}(hl:l.length≤1000000)(hs:∀i j,i<j→j<l.length→l[i]!≤l[j]!){t:List AV}{lp:List Lp}{H:List Ob}{r st ss s0 bs:Nat}{K:AV→St→Prop}{L:Nat}(hL:l.length=L)(hr:r<H.length)
 (hK:∀m k,m.length=l.length→k≤m.length→(m.take k).Pairwise (· < ·)→(∀v,v∈m.take k↔v∈l)→K (.sl r st [] s0 0 k) ⟨t,dh H r st ss m,lp⟩):Bc G BF [.sl r st [] s0 0 L] bs [] ⟨t,dh H r st ss l,lp⟩ K:=by
 subst hL;refine Bs FO rfl ?_;rw [A6 (by simp)];simp only [go_sem,↓reduceIte,↓Aa,Dg,AW hr];refine ⟨fun h2=>?_,fun h2=>?_⟩
 ·rw [OK hr];refine hK l l.length rfl (Nat.le_refl _) ?_ (fun v=>by rw [List.take_length]);rw [List.take_length];exact FZ fun i hi h0=>by omega
 have w1:IntKind.i64.wrap 1=1:=by decide
 refine Ac (fun (k:Nat) σ=>1≤k∧k≤l.length∧(∀i,0<i→i<k→l[i-1]!≠l[i]!)∧σ=⟨aT .undef 61 [(0,.sl r st [] s0 0 l.length),(3,I k)],dh H r st ss l,lp⟩) (fun k=>l.length-k) ?_ 1 ?_
 ·rintro k σ ⟨hk1,hk2,hne,rfl⟩ N Q hQ hN;by_cases hlt:k<l.length
  ·have w2:IntKind.i64.wrap ((k:Int)-1)=((k-1:Nat):Int):=by rw [As]<;>omega
   have hk3:k-1<l.length:=by omega
   simp only [go_sem,↓reduceIte,↓Aa,Int.ofNat_lt,hlt,AW hr,w2,hk3];refine ⟨fun he=>⟨by omega,?_⟩,fun he=>?_⟩
   ·have he':l[k]! = l[k-1]!:=by simpa using he
    refine Ac (fun (g:Nat×Nat×List Int) σ=>1≤g.1∧Cpt l g.2.2 g.2.1 (k+g.1)∧σ=⟨aT .undef 61 [(0,.sl r st [] s0 0 l.length),(3,I g.2.1),(4,.sl r st [] s0 k (l.length-k)),(5,I g.1)],dh H r st ss g.2.2,lp⟩) (fun g=>l.length-(k+g.1)) ?_ (1,k,l) ?_
    ·rintro ⟨j,q,m⟩ σ ⟨hj,hc,rfl⟩ N2 Q2 hQ2 hN2;simp only at hj hc;have hml:=hc.len;have hq1:=hc.k1;have hn1:=hc.n1;by_cases hlt2:j<l.length-k
     ·have w3:IntKind.i64.wrap ((j:Int)-1)=((j-1:Nat):Int):=by rw [As]<;>omega
      have g1:k+j<m.length:=by omega
      have g2:k+(j-1)<m.length:=by omega
      have g3:j-1<l.length-k:=by omega
      have r1:=hc.rest (k+j) (by omega) (by omega);have r2:=hc.rest (k+(j-1)) (by omega) (by omega);have g4:k+(j-1)=k+j-1:=by omega
      have g5:k+j<l.length:=by omega
      have gq:q<l.length:=by omega
      have gqm:q<m.length:=by omega
      have w4:=Ab hlt2 (show l.length-k≤1000000000 by omega);have w5:IntKind.i64.wrap ((q:Int)+1)=((q+1:Nat):Int):=by rw [As]<;>omega
      simp only [go_sem,↓reduceIte,↓Aa,Int.ofNat_lt,hlt2,AW hr,w3,w4,w5,g1,g2,g3,gq,gqm];rw [r1,r2,g4];refine ⟨fun h3=>hN2 (j+1,q+1,m.set q l[k+j]!) _ (by simp only;omega) ⟨by simp only;omega,hc.step hs g5 (by simpa using h3),?_⟩,fun h3=>hN2 (j+1,q,m) _ (by simp only;omega) ⟨by simp only;omega,hc.skip g5 (by simpa using h3),?_⟩⟩
      ·simp only [go_sem,↓reduceIte,↓Aa]
      ·simp only [go_sem,↓reduceIte,↓Aa]
     ·have hjl:k+j=l.length:=by omega
      subst hQ2;simp only [go_sem,↓reduceIte,↓Aa,Int.ofNat_lt,hlt2,AW hr];refine ⟨by omega,?_⟩;rw [Aah (s0:=s0) hr rfl (show q+(l.length-q)≤m.length by omega) (by simp only [go_sem,↓reduceIte,↓Aa]) 0 rfl];have hfl:(m.take q++List.replicate (l.length-q) 0++m.drop (q+(l.length-q))).length=l.length:=by simp;omega
      have hft:(m.take q++List.replicate (l.length-q) 0++m.drop (q+(l.length-q))).take q=m.take q:=by
       rw [List.append_assoc,List.take_append_of_le_length (by rw [List.length_take];omega),List.take_take,Nat.min_self]
      have hk:=hK _ q hfl (by omega) (by rw [hft];exact hc.pw) (fun v=>by rw [hft,hc.mem,hjl,List.take_length]);generalize m.take q++List.replicate (l.length-q) 0++m.drop (q+(l.length-q))=m' at *;simp only [go_sem,↓reduceIte,↓Aa,AW hr,OK hr];refine ⟨by omega,?_⟩;subst hQ;simp only [go_sem,↓reduceIte,↓Aa,OK hr,Nat.sub_zero];exact hk
    ·refine ⟨Nat.le_refl _,Cpt.start (k:=k) (by omega) hlt hne hs he',?_⟩;simp only [go_sem,↓reduceIte,↓Aa]
   ·have he':l[k]!≠l[k-1]!:=by simpa using he
    simp only [Ab hlt (show l.length≤1000000000 by omega)];refine hN (k+1) _ (by omega) ⟨by omega,by omega,fun i h1 h2=>?_,?_⟩
    ·rcases Nat.lt_or_eq_of_le (show i≤k by omega) with h3|rfl
     ·exact hne i h1 h3
     ·exact fun h=>he' h.symm
    ·simp only [go_sem,↓reduceIte,↓Aa]
  ·have hkl:k=l.length:=by omega
   subst hQ;simp only [go_sem,↓reduceIte,↓Aa,Int.ofNat_lt,hlt,AW hr,OK hr];refine hK l l.length rfl (Nat.le_refl _) ?_ (fun v=>by rw [List.take_length]);rw [List.take_length];refine FZ fun i hi h0=>?_;have:=hne i h0 (by omega);have:=hs (i-1) i (by omega) hi;omega
 ·refine ⟨by omega,by omega,fun i h1 h2=>by omega,?_⟩;simp only [go_sem,↓reduceIte,↓Aa,w1]
def atL (l:List Int)(x:Int):Nat:=(l.takeWhile fun v=>decide (v<x)).length
def OC (l:List Int)(x:Int):List Int:=if atL l x<l.length∧l[atL l x]! = x then l else l.take (atL l x)++x::l.drop (atL l x)
def uniL (a b:List Int):List Int:=b.foldl OC a
theorem AfA {l:List Int}{x:Int}:atL l x≤l.length:=by
 unfold atL;exact (List.takeWhile_prefix _).length_le
theorem atL_lt {l:List Int}{x:Int}:∀i<atL l x,l[i]! < x:=by
 induction l with
 | nil=>intro i hi;simp [atL] at hi
 | cons v l ih =>
   intro i hi;unfold atL at hi ih;rw [List.takeWhile_cons] at hi;by_cases hv:v<x
   ·rw [if_pos (by simpa using hv)] at hi;cases i with
    | zero=>exact hv
    | succ i=>simp only [List.length_cons,List.getElem!_cons_succ] at hi ⊢;exact ih i (by omega)
   ·rw [if_neg (by simpa using hv)] at hi;simp at hi
theorem atL_ge {l:List Int}{x:Int}:atL l x<l.length→¬l[atL l x]! < x:=by
 induction l with
 | nil=>intro h;simp at h
 | cons v l ih =>
   intro h hlt;unfold atL at h hlt ih;rw [List.takeWhile_cons] at h hlt;by_cases hv:v<x
   ·rw [if_pos (by simpa using hv)] at h hlt;simp only [List.length_cons,List.getElem!_cons_succ] at h hlt;exact ih (by omega) hlt
   ·rw [if_neg (by simpa using hv)] at h hlt;simp only [List.length_nil,List.getElem!_cons_zero] at hlt;exact hv hlt
theorem Afs {l:List Int}{x:Int}{i:Nat}(hi:i≤l.length)(h1:∀j<i,l[j]! < x)(h2:i<l.length→¬l[i]! < x):i=atL l x:=by
 have ha:=@AfA l x;rcases Nat.lt_trichotomy i (atL l x) with h|h|h
 ·exact absurd (atL_lt i h) (h2 (by omega))
 ·exact h
 ·exact absurd (h1 _ h) (atL_ge (by omega))
theorem putL_mem {l:List Int}{x v:Int}:v∈OC l x↔v∈l∨v=x:=by
 unfold OC;split
 ·rename_i h;constructor
  ·exact .inl
  ·rintro (h1|rfl)
   ·exact h1
   ·rw [←h.2];exact AI h.1
 ·have hl:=List.take_append_drop (atL l x) l;have:v∈l↔v∈l.take (atL l x)∨v∈l.drop (atL l x):=by rw [←List.mem_append,hl]
  rw [List.mem_append,List.mem_cons,this];constructor
  ·rintro (h|h|h)
   ·exact .inl (.inl h)
   ·exact .inr h
   ·exact .inl (.inr h)
  ·rintro ((h|h)|h)
   ·exact .inl h
   ·exact .inr (.inr h)
   ·exact .inr (.inl h)
theorem putL_ris {l:List Int}(h:l.Pairwise (· < ·)){x:Int}:(OC l x).Pairwise (· < ·):=by
 unfold OC;split
 ·exact h
 ·rename_i hne;have hl:=List.take_append_drop (atL l x) l;have hp:=h;rw [←hl,List.pairwise_append] at hp;have hlt:∀v∈l.take (atL l x),v<x:=fun v hv=>by
   obtain ⟨i,hi,e⟩:=List.mem_take_iff_getElem.1 hv;have:=atL_lt (l:=l) (x:=x) i (by omega);rw [getElem!_pos l i (by omega),e] at this;exact this
  have hgt:∀v∈l.drop (atL l x),x<v:=fun v hv=>by
   obtain ⟨i,hi,e⟩:=List.mem_iff_getElem.1 hv;rw [List.length_drop] at hi;rw [List.getElem_drop] at e;have h0:¬l[atL l x]! < x:=atL_ge (by omega);have h1:l[atL l x]!≠x:=fun e2=>hne ⟨by omega,e2⟩;have h2:l[atL l x]!≤v:=by
    rw [←e];rcases Nat.eq_zero_or_pos i with rfl|hi0
    ·rw [getElem!_pos l (atL l x) (by omega)];simp
    ·have:=List.pairwise_iff_getElem.1 h (atL l x) (atL l x+i) (by omega) (by omega) (by omega);rw [getElem!_pos l (atL l x) (by omega)];omega
   omega
  rw [List.pairwise_append,List.pairwise_cons];exact ⟨hp.1,⟨hgt,hp.2.1⟩,fun a ha b hb=>by
   rcases List.mem_cons.1 hb with rfl|hb
   ·exact hlt a ha
   ·exact hp.2.2 a ha b hb⟩
theorem uniL_mem {b:List Int}{v:Int}:∀ {a:List Int},v∈uniL a b↔v∈a∨v∈b:=by
 induction b with
 | nil=>intro a;simp [uniL]
 | cons x b ih =>
   intro a;show v∈uniL (OC a x) b↔_;rw [ih,putL_mem,List.mem_cons,or_assoc]
theorem RU {b:List Int}:∀ {a:List Int},a.Pairwise (· < ·)→(uniL a b).Pairwise (· < ·):=by
 induction b with
 | nil=>intro a h;exact h
 | cons x b ih=>intro a h;exact ih (putL_ris h)
theorem AbD {a b m:List Int}(ha:a.Pairwise (· < ·))(hm:m.Pairwise (· < ·))(h:∀v,v∈m↔v∈a++b):m=uniL a b :=
 Agr hm (RU ha) fun v=>by rw [h,uniL_mem,List.mem_append]
theorem RK {fr:Bool}{roots:List Nat}{b s:Nat}{σ:St}{k:AV→St→Prop}:callT G Bg [.lst []] fr roots b [s] σ k=k .emp σ :=
 callT_of (n:=30) (h:=σ.h) Jc rfl rfl
theorem Ab4 {l:List Int}:(l.map I).all (fun e:AV=>e.cells.all AV.plain)=true:=by
 rw [List.all_eq_true];intro x hx;obtain ⟨n,_,rfl⟩:=List.mem_map.1 hx;rfl
theorem Abn (l:List Int)(h0:l≠[])(hl:l.length≤1048576):FnO G Bg [.lst (l.map I)] 1 (l.map I):=by
 cases l with
 | nil=>exact absurd rfl h0
 | cons x l =>
   refine FnQ.own1 (FnQ.mk' Jc rfl rfl ?_) Ab4;simp only [go_sem,↓reduceIte,↓Aa,H4];exact ⟨fun h=>by simp at h,fun _=>⟨⟨by simp at hl;omega,rfl⟩,1,1,[],0,rfl,rfl⟩⟩
theorem AhX {t:List AV}{h:List Ob}{lp:List Lp}{bs:Nat}{K:AV→St→Prop}(hK:K (.lst []) ⟨t,h,lp⟩):Bc G BF [.emp] bs [] ⟨t,h,lp⟩ K:=by
 refine Bs FO rfl ?_;rw [A6 (by simp)];have ht:List.take h.length h=h:=List.take_length;simp only [go_sem,↓reduceIte,↓Aa,Dg,ht];exact hK
theorem AfB {m:List Int}(h:Srt ltI m 0 m.length):∀i j,i<j→j<m.length→m[i]!≤m[j]!:=fun i j hij hj=>by
 have:=h i j (Nat.zero_le _) hij hj;unfold ltI at this;rw [decide_eq_false_iff_not] at this;omega
theorem Tz {x:AV}{xs ys:List AV}{es bytes:Nat}{h:List Ob}{r:Nat}{q:AV→List Ob→Prop}(hx:xs≠[]) :
 WO x xs ys es bytes h r q=((xs.length+ys.length≤4294967296*(32768 / bytes)∧0<bytes∧bytes≤4096∧0<es∧x.isLst=false)∧Mg h r (.own es (xs++ys)) (fun h st=>q (.sl r st [] 0 0 (xs.length+ys.length)) h)):=by
 cases xs with
 | nil=>exact absurd rfl hx
 | cons y xs=>simp [WO]
theorem XK {l:List Int}:(l.map I).map frz=l.map I:=by rw [List.map_map];rfl
theorem AbJ (a b:List Int)(ha:a.Pairwise (· < ·))(hla:a.length≤50000)(hlb:b.length≤50000):Fn G DA [.lst (a.map I),.lst (b.map I)] (.lst ((uniL a b).map I)):=by
 refine FnP.mk' Su rfl rfl ?_;by_cases h0:a = []
 ·subst h0;by_cases h1:b = []
  ·subst h1;simp only [go_sem,↓reduceIte,↓Aa,Ht,List.map_nil,RK];refine ⟨Nat.zero_le _,Adu (.inr rfl) ?_⟩;simp only [go_sem,↓reduceIte,↓Aa];refine AhX ?_;simp only [go_sem,↓reduceIte,↓Aa];rfl
  ·simp only [go_sem,↓reduceIte,↓Aa,Ht,List.map_nil,RK];refine ⟨by omega,?_⟩;have e:List.map I b≠[]:=by simpa using h1
   simp only [Le,MW,sta,ssa,if_neg e,List.length_map];have hh:([⟨0,0,.gone⟩,⟨0+1,0,.own 1 (b.map I)⟩]:List Ob)=dh [⟨0,0,.gone⟩,E4] 1 1 0 b:=rfl;rw [hh];refine XU (by omega) rfl (by simp) (fun l' h1 h2=>?_);have hlen:=h1.len;simp only [go_sem,↓reduceIte,↓Aa];refine AfT (by omega) (AfB (by rw [hlen];exact h2)) (by omega) (by simp) (fun m k h3 h4 h5 h6=>?_);have hm:m.take k=uniL [] b:=AbD List.Pairwise.nil h5 fun v=>by rw [h6,h1.perm.mem_iff,List.nil_append]
   have hd:dh [⟨0,0,.gone⟩,⟨0,0,.gone⟩] 1 1 0 m = [⟨0,0,.gone⟩,⟨1,0,.own 1 (m.map I)⟩]:=rfl;rw [←hm];simp only [go_sem,↓reduceIte,↓Aa,hd];rw [if_pos h4,←List.map_take,XK]
 ·have hc:∀ {fr:Bool}{roots:List Nat}{b s:Nat}{σ:St}{k:AV→St→Prop},callT G Bg [.lst (a.map I)] fr roots b [s] σ k=Mg (if fr then σ.h else Al σ.h roots) (b+s) (.own 1 (a.map I)) (fun h st=>k (.sl (b+s) st [] 0 0 (a.map I).length) { σ with h }):=(Abn a h0 (by omega)).rule;have e:List.map I a≠[]:=by simpa using h0
  simp only [go_sem,↓reduceIte,↓Aa,Ht,hc,Tz e];refine ⟨⟨by omega,rfl⟩,?_⟩;have hh:([⟨1,0,.gone⟩,⟨1,0,.own 1 (a.map I++b.map I)⟩]:List Ob)=dh [⟨1,0,.gone⟩,E4] 1 1 0 (a++b):=by
   unfold dh;rw [List.map_append];rfl
  rw [hh];refine XU (by simp;omega) (by simp) (by simp) (fun l' h1 h2=>?_);have hlen:=h1.len;simp only [go_sem,↓reduceIte,↓Aa];refine AfT (by simp at hlen;omega) (AfB (by rw [hlen];exact h2)) (by simp at hlen;omega) (by simp) (fun m k h3 h4 h5 h6=>?_);have hm:m.take k=uniL a b:=AbD ha h5 fun v=>by rw [h6,h1.perm.mem_iff]
  have hd:dh [⟨1,0,.gone⟩,⟨0,0,.gone⟩] 1 1 0 m = [⟨1,0,.gone⟩,⟨1,0,.own 1 (m.map I)⟩]:=rfl;rw [←hm];simp only [go_sem,↓reduceIte,↓Aa,hd];rw [if_pos h4,←List.map_take,XK]
open Classical in
theorem Ad4 (x y:Stt)(hx:x.A.length≤1048576)(hy:y.A.length≤1048576):FnT G Fs [eSt x,eSt y] (Bo (decide (¬ ∀v∈x.A,v∈y.A))):=by
 refine FnP.mk' V5 rfl rfl ?_;simp only [go_sem,↓reduceIte,↓Aa,PN,eSt];refine Ac (fun (i:Nat) σ=>i≤x.A.length∧(∀j<i,x.A[j]!∈y.A)∧σ=⟨aT .undef 20 [(3,.ptr 1 1 [] 0 0 0),(8,.lst (x.A.map I)),(9,I x.A.length),(10,I i)],[⟨1,0,.own 2 [.agg [.lst (x.A.map I),.lst (x.X.map I)]]⟩,⟨1,0,.own 2 [.agg [.lst (y.A.map I),.lst (y.X.map I)]]⟩],[]⟩) (fun i=>x.A.length-i) ?_ 0 ?_
 ·rintro i σ ⟨hi,hall,rfl⟩ N Q hQ hN;by_cases hlt:i<x.A.length
  ·simp only [go_sem,↓reduceIte,↓Aa,Ab hlt (by omega),Int.ofNat_lt,hlt,Aip hy];refine ⟨fun hm=>?_,fun hm=>?_⟩
   ·subst hQ;simp only [go_sem,↓reduceIte,↓Aa];rw [decide_eq_true (show ¬ ∀v∈x.A,v∈y.A from fun h=>hm (h _ (AI hlt)))]
   ·refine hN (i+1) _ (by omega) ⟨by omega,Ae hall hm,?_⟩;simp only [go_sem,↓reduceIte,↓Aa]
  ·subst hQ;simp only [go_sem,↓reduceIte,↓Aa,Int.ofNat_lt,hlt];rw [decide_eq_false];intro h;refine h (fun v hv=>?_);obtain ⟨j,hj,e⟩:=getAt hv;rw [←e];exact hall j (by omega)
 ·exact ⟨by omega,by simp,by simp only [go_sem,↓reduceIte,↓Aa]⟩
open Classical in
theorem AgB {x y:Stt}(hx:x.A.length≤1048576)(hy:y.A.length≤1048576){fr:Bool}{roots:List Nat}{b:Nat}{ss:List Nat}{σ:St}{k:AV→St→Prop} :
 callT G Fs [.agg [.lst (x.A.map I),.lst (x.X.map I)],.agg [.lst (y.A.map I),.lst (y.X.map I)]] fr roots b ss σ k=k (Bo (decide (¬ ∀v∈x.A,v∈y.A))) σ:=(Ad4 x y hx hy).rule
theorem AdO {m q:Nat}(s0:Spc)(hs0:SpcK m s0)(t:Spc)(ht:SpcK q t)(he0:s0.acts.length=t.acts.length):∃d:Int,FnT G D1 [eSp s0,eSp t] (I d)∧(d<0↔Ref (trimA s0).1 t):=by
 suffices hh:FnP G D1 [eSp s0,eSp t] (fun rs h=>∃d:Int,packV (treeBL 0 h rs)=I d∧(d<0↔Ref (trimA s0).1 t)∧rs.all AV.flats=true) by
  obtain ⟨F,n,rs,σ1,e1,e2,e3,e4,e5,e6,d,h3,h4,h5⟩:=hh;exact ⟨d,⟨F,n,rs,σ1,e1,e2,e3,e4,e5,e6,h3,h5⟩,h4⟩
 have hb0:=hs0.b hs0.sz;have htrim:∀ {roots:List Nat}{b:Nat}{ss:List Nat}{σ:St}{k:AV→St→Prop},callT G Bt [.agg [.lst (s0.acts.map .str),.lst (s0.S.map eSt)]] true roots b ss σ k=k (.tup [eSp (trimA s0).1,.lst ((trimA s0).2.map eN)]) σ:=Tr hb0 hs0.s1 (Au hs0.acts);obtain ⟨hs,hsa⟩:=Cx hs0;have he:(trimA s0).1.acts.length=t.acts.length:=by rw [hsa];exact he0
 generalize (trimA s0).1=s at *;generalize (trimA s0).2=tl at *;refine FnP.mk' W4 rfl rfl ?_;have hS:=hs.ok.s2;have hT:=ht.s2;have hSs:=hs.ok.s1;have hTs:=ht.s1;have hz:=hs.ok.sz;have htz:=ht.sz;simp only [go_sem,↓reduceIte,↓Aa,Pa,eSp,htrim];refine ⟨by omega,?_⟩;refine Ac (fun (i:Nat) σ=>i≤s.S.length∧∃z2 a3 c3,σ=⟨aT .undef 120 [(2,.ptr 0 1 [] 0 0 0),(3,.ptr 1 1 [] 0 0 0),(5,.sl 2 1 [] 0 0 s.S.length),(25,I s.S.length),(26,I i)],
  [⟨1,0,.own 2 [.agg [.lst (s.acts.map .str),.lst (s.S.map eSt)]]⟩,⟨1,0,.own 2 [.agg [.lst (t.acts.map .str),.lst (t.S.map eSt)]]⟩,⟨1,z2,.own 1 ((List.range s.S.length).map (Qk t.S.length i))⟩,⟨a3,c3,.gone⟩,⟨0,0,.gone⟩,⟨0,0,.gone⟩,⟨0,0,.gone⟩,⟨0,0,.gone⟩,⟨0,0,.gone⟩],[]⟩) (fun i=>s.S.length-i) ?_ 0 ?_
 ·rintro i σ ⟨hi,z2,a3,c3,rfl⟩ N Q hQ hN;by_cases hlt:i<s.S.length
  ·simp only [go_sem,↓reduceIte,↓Aa,Ab hlt (by omega),Int.ofNat_lt,hlt,List.length_range,PP hlt,ZC,Abr];refine ⟨by omega,hN (i+1) _ (by omega) ⟨by omega,?_⟩⟩;simp only [go_sem,↓reduceIte,↓Aa];repeat apply Exists.intro
   rfl
  ·have hil:i=s.S.length:=by omega
   subst hil hQ;have h0:0<s.S.length:=hSs;have h1:0<t.S.length:=hTs;simp only [go_sem,↓reduceIte,↓Aa,Int.ofNat_lt,hlt,AbT];have hM0:MSz (List.replicate s.S.length (List.replicate t.S.length false)) s.S.length t.S.length:=⟨by simp,fun x hx=>by rw [getElem!_pos _ x (by simpa using hx)];simp⟩;have hM1:∀x y,¬Met (List.replicate s.S.length (List.replicate t.S.length false)) x y:=by
    intro x y h;unfold Met at h;by_cases hx:x<s.S.length
    ·rw [getElem!_pos _ x (by simpa using hx)] at h;simp only [List.getElem_replicate,List.getElem!_eq_getElem?_getD,List.getElem?_replicate] at h;split at h<;>simp at h
    ·have e1:(List.replicate s.S.length (List.replicate t.S.length false))[x]! = []:=by
      rw [List.getElem!_eq_getElem?_getD,List.getElem?_eq_none (by simpa using hx)];rfl
     rw [e1] at h;simp at h
   generalize List.replicate s.S.length (List.replicate t.S.length false)=M0 at *;have hRI:RI2 s t (XM M0 0 0) [(0,0)]:=by
    refine ⟨Xi hM0 h0,(setM_get hM0 h0 h1).2 (.inl ⟨rfl,rfl⟩),fun x y hm'=>?_,fun p hp=>?_,fun x y hm'=>?_⟩
    ·rcases (setM_get hM0 h0 h1).1 hm' with ⟨rfl,rfl⟩|h
     ·exact (Rch2.closed s t).z
     ·exact absurd h (hM1 x y)
    ·rw [List.mem_singleton] at hp;subst hp;exact (setM_get hM0 h0 h1).2 (.inl ⟨rfl,rfl⟩)
    ·rcases (setM_get hM0 h0 h1).1 hm' with ⟨rfl,rfl⟩|h
     ·exact .inl (List.mem_singleton_self _)
     ·exact absurd h (hM1 x y)
   have g0:=hM0.l;have g1:=hM0.r 0 h0;have hμ0:=μM_le hRI.sz;have hμ02:s.S.length*t.S.length≤12000*12000:=Nat.mul_le_mul (by omega) (by omega);simp only [go_sem,↓reduceIte,↓Aa,Int.ofNat_lt,h0,h1,g0,g1,rowB,J9,Tk];refine ⟨by omega,by omega,?_⟩;refine Ac (fun (g:List (List Bool)×List (Nat×Nat)) σ=>RI2 s t g.1 g.2∧g.2.length≤300000000∧∃d:Nat,d+(2*μM g.1+if g.2 = [] then 0 else 1)≤300000000∧∃z0 z2 o3 o4 a5 c5 a6 c6 a7 c7 a8 c8,AeF 7 σ=⟨aT .undef 120 [(7,.lst (g.2.map eN2)),(2,.ptr 0 1 [] 0 0 0),(3,.ptr 1 1 [] 0 0 0),(5,.sl 2 1 [] 0 0 s.S.length),(8,I d)],
    [⟨1,z0,.own 2 [.agg [.lst (s.acts.map .str),.lst (s.S.map eSt)]]⟩,⟨1,0,.own 2 [.agg [.lst (t.acts.map .str),.lst (t.S.map eSt)]]⟩,⟨1,z2,.own 1 (g.1.map rowB)⟩,o3,o4,⟨a5,c5,.gone⟩,⟨a6,c6,.gone⟩,⟨a7,c7,.gone⟩,⟨a8,c8,.gone⟩],[]⟩) (fun g=>2*μM g.1+if g.2 = [] then 0 else 1) ?_ (XM M0 0 0,[(0,0)]) ?_
   ·rintro ⟨M,W⟩ σ ⟨hI,hWl,d,hd,z0,z2,o3,o4,a5,c5,a6,c6,a7,c7,a8,c8,hσ⟩ N Q hQ hN;simp only at hI hσ hWl hd;have hMl:=hI.sz.l;by_cases hW:W = []
    ·subst hW;have hsat:=hI.fin;subst hQ;simp only [go_sem,↓reduceIte,↓Aa,hσ,hMl];exact ⟨-1,rfl,fun _=>hsat,fun _=>by omega⟩
    ·have hW0:0<W.length:=List.length_pos_iff.2 hW;have hWp:(0:Int)<(W.length:Int):=by omega
     have hμ:=μM_le hI.sz;simp only [go_sem,↓reduceIte,↓Aa,hσ,hWp];refine Ac (fun (g:Nat×List (List Bool)×List (Nat×Nat)) σ=>g.1≤W.length∧RI2 s t g.2.1 (W.drop g.1++g.2.2)∧μM g.2.1+g.2.2.length=μM M∧∃z2 o3 o4 a5 c5 a6 c6 a7 c7 a8 c8,σ=⟨aT .undef 120 [(2,.ptr 0 1 [] 0 0 0),(3,.ptr 1 1 [] 0 0 0),(5,.sl 2 1 [] 0 0 s.S.length),(8,I d),(9,Le .nils 2 8 a8 (g.2.2.map eN2)),(48,.lst (W.map eN2)),(49,I W.length),(50,I g.1)],
      [⟨1,z0,.own 2 [.agg [.lst (s.acts.map .str),.lst (s.S.map eSt)]]⟩,⟨1,0,.own 2 [.agg [.lst (t.acts.map .str),.lst (t.S.map eSt)]]⟩,⟨1,z2,.own 1 (g.2.1.map rowB)⟩,o3,o4,⟨a5,c5,.gone⟩,⟨a6,c6,.gone⟩,⟨a7,c7,.gone⟩,⟨a8,c8,MW 2 (g.2.2.map eN2)⟩],[]⟩) (fun g=>W.length-g.1) ?_ (0,M,[]) ?_
     ·rintro ⟨j,M1,W2⟩ σ ⟨hj,hI1,hcnt,z2,o3,o4,a5,c5,a6,c6,a7,c7,a8,c8,rfl⟩ N2 Q2 hQ2 hN2;simp only at hj hI1 hcnt;by_cases hlt:j<W.length
      ·have hcons:W.drop j=W[j]!::W.drop (j+1):=by rw [List.drop_eq_getElem_cons hlt,getElem!_pos W j hlt]
       rw [hcons,List.cons_append] at hI1;have hpl:=hI1.lt hs ht he (List.mem_cons_self ..);generalize hp:W[j]! = p at *;obtain ⟨x,y⟩:=p;simp only at hpl;have hpr:=hI1.r _ _ (hI1.w _ (List.mem_cons_self ..));simp only at hpr;have hxA:=(hz.x x hpl.1).1;have hyA:=(htz.x y hpl.2).1;simp only [go_sem,↓reduceIte,↓Aa,Int.ofNat_lt,hlt,hp,eN2,eN,AgB hxA hyA,Ab hlt (by omega),hpl.1,hpl.2,eSt];refine ⟨fun hg=>?_,fun hg=>?_⟩
       ·subst hQ2;simp only [go_sem,↓reduceIte,↓Aa];subst hQ;simp only [go_sem,↓reduceIte,↓Aa];exact ⟨d,rfl,fun h=>by omega,fun hr=>absurd (hr x y hpr) hg⟩
       ·have hg:subP s t x y:=Classical.not_not.1 hg;have hxX:=(hz.x x hpl.1).2;refine Ac (fun (g:Nat×List (List Bool)×List (Nat×Nat)) σ=>g.1≤s.S[x]!.X.length∧RI2 s t g.2.1 ((x,y)::(W.drop (j+1)++g.2.2))∧(∀a<g.1,0≤s.S[x]!.X[a]!→Met g.2.1 s.S[x]!.X[a]!.toNat t.S[y]!.X[a]!.toNat)∧μM g.2.1+g.2.2.length=μM M∧∃z2 o3 o4 a6 c6 a7 c7 a8 c8,σ=⟨aT .undef 120 [(2,.ptr 0 1 [] 0 0 0),(3,.ptr 1 1 [] 0 0 0),(5,.sl 2 1 [] 0 0 s.S.length),(8,I d),(9,Le .nils 2 8 a8 (g.2.2.map eN2)),(11,.ptr 5 (a5+1) [] 0 0 0),(48,.lst (W.map eN2)),(49,I W.length),(50,I j),(74,.lst (s.S[x]!.X.map I)),(75,I s.S[x]!.X.length),(76,I g.1)],
         [⟨1,z0,.own 2 [.agg [.lst (s.acts.map .str),.lst (s.S.map eSt)]]⟩,⟨1,0,.own 2 [.agg [.lst (t.acts.map .str),.lst (t.S.map eSt)]]⟩,⟨1,z2,.own 1 (g.2.1.map rowB)⟩,o3,o4,⟨a5+1,0,.own 2 [.agg [I x,I y]]⟩,⟨a6,c6,.gone⟩,⟨a7,c7,.gone⟩,⟨a8,c8,MW 2 (g.2.2.map eN2)⟩],[]⟩) (fun g=>s.S[x]!.X.length-g.1) ?_ (0,M1,W2) ?_
        ·rintro ⟨k,M2,W3⟩ σ ⟨hk,hI2,hdn,hcnt2,z2,o3,o4,a6,c6,a7,c7,a8,c8,rfl⟩ N3 Q3 hQ3 hN3;simp only at hk hI2 hdn hcnt2;have htk:∀i<k+1,i=k∨i<k:=fun i hi=>by omega
         by_cases hlt2:k<s.S[x]!.X.length
         ·by_cases hx0:0≤s.S[x]!.X[k]!
          ·obtain ⟨g1,g2,g3,g4⟩:=Abz hs ht he hpl.1 hpl.2 hg hlt2 hx0;have hsr:=(Rch2.closed s t).n x y hpr hg k hlt2 hx0;obtain ⟨tx,htx⟩:∃n:Nat,s.S[x]!.X[k]! = n:=⟨s.S[x]!.X[k]!.toNat,by omega⟩;obtain ⟨ty,hty⟩:∃n:Nat,t.S[y]!.X[k]! = n:=⟨t.S[y]!.X[k]!.toNat,by omega⟩;rw [htx,hty,Int.toNat_natCast,Int.toNat_natCast] at hsr;have htx2:tx<s.S.length:=by omega
           have hty2:ty<t.S.length:=by omega
           have htM:tx<M2.length:=by rw [hI2.sz.l];exact htx2
           have htR:ty<M2[tx]!.length:=by rw [hI2.sz.r tx htx2];exact hty2
           simp only [go_sem,↓reduceIte,↓Aa,Int.ofNat_lt,hlt2,eSt,htx,hty,hpl.2,g2,htx2,hty2,htM,htR,rowB,Ab hlt2 (by omega),hI2.sz.l];have hμ3:=μM_le hI2.sz;refine ⟨fun hbad=>absurd hbad (by omega),fun _=>⟨fun hf=>⟨by omega,?_⟩,fun hf=>?_⟩⟩
           ·have hg2:=fun {x' y'}=>@setM_get M2 _ _ tx ty hI2.sz htx2 hty2 x' y';have hms:=μM_set hI2.sz htx2 hty2 hf;have hmt:=hI2.meet htx2 hty2 hsr;rw [List.cons_append,List.append_assoc] at hmt;refine hN3 (k+1,XM M2 tx ty,W3++[(tx,ty)]) _ (by simp only;omega) ⟨by simp only;omega,hmt,fun i hi hi0=>?_,by simp only [List.length_append,List.length_singleton];omega,?_⟩
            ·rcases htk i hi with rfl|hi
             ·rw [htx,hty,Int.toNat_natCast,Int.toNat_natCast];exact hg2.2 (.inl ⟨rfl,rfl⟩)
             ·exact hg2.2 (.inr (hdn i hi hi0))
            ·simp only [go_sem,↓reduceIte,↓Aa,XM,List.map_append,eN2,eN,J9,Tk];repeat apply Exists.intro
             rfl
           ·refine hN3 (k+1,M2,W3) _ (by simp only;omega) ⟨by simp only;omega,hI2,fun i hi hi0=>?_,hcnt2,?_⟩
            ·rcases htk i hi with rfl|hi
             ·rw [htx,hty,Int.toNat_natCast,Int.toNat_natCast];exact hf
             ·exact hdn i hi hi0
            ·simp only [go_sem,↓reduceIte,↓Aa];repeat apply Exists.intro
             rfl
          ·have hneg:s.S[x]!.X[k]! < 0:=by omega
           simp only [go_sem,↓reduceIte,↓Aa,Int.ofNat_lt,hlt2,hneg,Ab hlt2 (by omega)];refine hN3 (k+1,M2,W3) _ (by simp only;omega) ⟨by simp only;omega,hI2,fun i hi hi0=>?_,hcnt2,?_⟩
           ·rcases htk i hi with rfl|hi
            ·omega
            ·exact hdn i hi hi0
           ·simp only [go_sem,↓reduceIte,↓Aa];repeat apply Exists.intro
            rfl
         ·have hkl:k=s.S[x]!.X.length:=by omega
          subst hQ3;simp only [go_sem,↓reduceIte,↓Aa,Int.ofNat_lt,hlt2,Ab hlt (show W.length≤1000000000 by omega)];refine hN2 (j+1,M2,W3) _ (by simp only;omega) ⟨by simp only;omega,hI2.done hg (fun i hi=>hdn i (by rw [hkl];exact hi)),hcnt2,?_⟩;simp only [go_sem,↓reduceIte,↓Aa];repeat apply Exists.intro
          rfl
        ·refine ⟨by simp,hI1,fun i hi=>absurd hi (by simp),hcnt,?_⟩;simp only [go_sem,↓reduceIte,↓Aa];repeat apply Exists.intro
         rfl
      ·have hjl:j=W.length:=by omega
       subst hQ2;have hdw:IntKind.i64.wrap ((d:Int)+1)=((d+1:Nat):Int):=by rw [As]<;>omega
       simp only [go_sem,↓reduceIte,↓Aa,Int.ofNat_lt,hlt,hdw];subst hjl;rw [List.drop_length,List.nil_append] at hI1;have hms:2*μM M1+(if W2 = [] then 0 else 1)+1≤2*μM M+1:=by
        by_cases hW2:W2 = []
        ·subst hW2;simp at hcnt ⊢;omega
        ·have:=List.length_pos_iff.2 hW2;simp only [hW2,if_false];omega
       simp only [hW,if_false] at hd;refine hN (M1,W2) _ (by simp only [hW,if_false];omega) ⟨hI1,by simp only;omega,d+1,by simp only;omega,?_⟩;simp only [go_sem,↓reduceIte,↓Aa,Aci];repeat apply Exists.intro
       rfl
     ·refine ⟨by simp,by simpa using hI,by simp,?_⟩;simp only [go_sem,↓reduceIte,↓Aa];repeat apply Exists.intro
      rfl
   ·refine ⟨hRI,by simp,0,?_,?_⟩
    ·simp only [List.cons_ne_nil,if_false];omega
    simp only [go_sem,↓reduceIte,↓Aa,XM,eN2,eN];repeat apply Exists.intro
    rfl
 ·refine ⟨by omega,?_⟩;have e1:(List.range s.S.length).map (Qk t.S.length 0)=List.replicate s.S.length AV.nils:=by
   apply List.ext_getElem (by simp);intro j h1 h2;simp [Qk]
  simp only [go_sem,↓reduceIte,↓Aa,e1];repeat apply Exists.intro
  rfl
open Classical in
theorem refR_ok {m q:Nat}(s:Spc)(hs:SpcK m s)(t:Spc)(ht:SpcK q t)(he:s.acts.length=t.acts.length):FnT G C0 [eSp s,eSp t] (Bo (decide (Ref (trimA s).1 t))):=by
 obtain ⟨d,h,hd⟩:=AdO s hs t ht he;have hcall:∀ {fr:Bool}{roots:List Nat}{b:Nat}{ss:List Nat}{σ:St}{k:AV→St→Prop},callT G D1 [.agg [.lst (s.acts.map .str),.lst (s.S.map eSt)],.agg [.lst (t.acts.map .str),.lst (t.S.map eSt)]] fr roots b ss σ k=k (I d) σ:=h.rule;refine FnP.mk' S6 rfl rfl ?_;simp only [go_sem,↓reduceIte,↓Aa,Mj,eSp,hcall];congr 1;exact decide_eq_decide.2 hd
open Classical in
theorem AfX {m q:Nat}{s:Spc}(hs:SpcK m s){t:Spc}(ht:SpcK q t)(he:s.acts.length=t.acts.length){fr:Bool}{roots:List Nat}{b:Nat}{ss:List Nat}{σ:St}{k:AV→St→Prop} :
 callT G C0 [.agg [.lst (s.acts.map .str),.lst (s.S.map eSt)],.agg [.lst (t.acts.map .str),.lst (t.S.map eSt)]] fr roots b ss σ k=k (Bo (decide (Ref (trimA s).1 t))) σ:=(refR_ok s hs t ht he).rule
open Classical in
theorem Acw {m q:Nat}(s:Spc)(hs:SpcK m s)(t:Spc)(ht:SpcK q t)(he:s.acts.length=t.acts.length):FnT G D3 [eSp s,eSp t] (Bo (decide (Ref (trimA s).1 t∧Ref (trimA t).1 s))):=by
 refine FnP.mk' W9 rfl rfl ?_;simp only [go_sem,↓reduceIte,↓Aa,Qg,eSp,AfX hs ht he,AfX ht hs he.symm];by_cases h1:Ref (trimA s).1 t<;>by_cases h2:Ref (trimA t).1 s<;>simp [h1,h2]
open Classical in
theorem AdF {m q:Nat}{s:Spc}(hs:SpcK m s){t:Spc}(ht:SpcK q t)(he:s.acts.length=t.acts.length){fr:Bool}{roots:List Nat}{b:Nat}{ss:List Nat}{σ:St}{k:AV→St→Prop} :
 callT G D3 [.agg [.lst (s.acts.map .str),.lst (s.S.map eSt)],.agg [.lst (t.acts.map .str),.lst (t.S.map eSt)]] fr roots b ss σ k=k (Bo (decide (Ref (trimA s).1 t∧Ref (trimA t).1 s))) σ:=(Acw s hs t ht he).rule
end Go.Mw
