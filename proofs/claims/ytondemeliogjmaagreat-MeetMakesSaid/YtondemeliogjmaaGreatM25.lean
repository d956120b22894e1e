/- Sorting rows of numbers: pivots, breaking patterns. -/
import Derived.Test.YtondemeliogjmaaGreatM24
set_option linter.unusedVariables false
set_option linter.unusedSimpArgs false
namespace Go.Mw
set_option maxRecDepth 100000
def dc (H:List Ob)(r st ss:Nat)(n:Int):List Ob:=H.set r ⟨st,ss,.own 1 [.int .u64 n]⟩
theorem AdQ {H:List Ob}{r st ss:Nat}{n:Int}(hr:r<H.length):(dc H r st ss n)[r]? = some ⟨st,ss,.own 1 [.int .u64 n]⟩:=by unfold dc;rw [List.getElem?_set_self hr]
theorem dc_set {H:List Ob}{r st ss st' ss':Nat}{n m:Int}:(dc H r st ss n).set r ⟨st',ss',.own 1 [.int .u64 m]⟩=dc H r st' ss' m:=by unfold dc;rw [List.set_set]
theorem dc_len {H:List Ob}{r st ss:Nat}{n:Int}:(dc H r st ss n).length=H.length:=by unfold dc;rw [List.length_set]
theorem dc_take {H:List Ob}{r st ss:Nat}{n:Int}:(dc H r st ss n).take H.length=dc H r st ss n:=List.take_of_length_le (by rw [dc_len];exact Nat.le_refl _)
attribute [go_sem] dc_set dc_len dc_take
theorem next_ok {n:Int}{t:List AV}{lp:List Lp}{H:List Ob}{r st ss s0 bs:Nat}{K:AV→St→Prop}(hr:r<H.length)
 (hK:∀n',K (.int .u64 n') ⟨t,dc H r st ss n',lp⟩):AM G AL [.ptr r st [] s0 0 0] bs [] ⟨t,dc H r st ss n,lp⟩ K:=by
 refine A5 Hu rfl ?_;rw [AI (by simp)];simp only [go_sem,↓reduceIte,↓Aa,Df,AdQ hr];exact hK _
theorem AeM {H:List Ob}{r st ss st' ss':Nat}{n m:Int}:(dh H r st ss [n]).set r ⟨st',ss',.own 1 [.int .i64 m]⟩=dh H r st' ss' [m]:=by unfold dh;rw [List.set_set];rfl
theorem Ur {l:List Int}{x y:Nat}(hx:x<l.length)(hy:y<l.length){n:Int}{t:List AV}{lp:List Lp}{H:List Ob}{r st ss s0 bs:Nat}{K:AV→St→Prop}(hr:r<H.length)
 (hK:∀n' (z w:Nat),(z=x∧w=y∨z=y∧w=x)→K (.tup [I z,I w]) ⟨t,dh H r st ss [n'],lp⟩):AM G Ap [.lst (l.map I),I x,I y,.ptr r st [] s0 0 0] bs [] ⟨t,dh H r st ss [n],lp⟩ K:=by
 refine A5 FS rfl ?_;rw [AI (by simp)];have hxi:(x:Int)<(l.length:Int):=by omega
 have hyi:(y:Int)<(l.length:Int):=by omega
 simp only [go_sem,↓reduceIte,↓Aa,CJ,AB hr,hx,hy,hxi,hyi,AeM];exact ⟨fun _=>hK _ y x (.inr ⟨rfl,rfl⟩),fun _=>hK _ x y (.inl ⟨rfl,rfl⟩)⟩
theorem AaJ {l:List Int}{x y z:Nat}(hx:x<l.length)(hy:y<l.length)(hz:z<l.length){n:Int}{t:List AV}{lp:List Lp}{H:List Ob}{r st ss s0 bs:Nat}{K:AV→St→Prop}(hr:r<H.length)
 (hK:∀n' (w:Nat),(w=x∨w=y∨w=z)→K (I w) ⟨t,dh H r st ss [n'],lp⟩):AM G AE [.lst (l.map I),I x,I y,I z,.ptr r st [] s0 0 0] bs [] ⟨t,dh H r st ss [n],lp⟩ K:=by
 refine A5 FB rfl ?_;rw [AI (by simp)];simp only [go_sem,↓reduceIte,↓Aa,CK];refine Ur hx hy hr (fun n1 x1 y1 h1=>?_);simp only [go_sem,↓reduceIte,↓Aa];refine Ur (show y1<l.length by omega) hz hr (fun n2 y2 z2 h2=>?_);simp only [go_sem,↓reduceIte,↓Aa];refine Ur (show x1<l.length by omega) (show y2<l.length by omega) hr (fun n3 x3 y3 h3=>?_);simp only [go_sem,↓reduceIte,↓Aa];exact hK _ y3 (by omega)
theorem Va {l:List Int}{x:Nat}(h0:0<x)(hx:x+1<l.length)(hl:l.length≤1000000){n:Int}{t:List AV}{lp:List Lp}{H:List Ob}{r st ss s0 bs:Nat}{K:AV→St→Prop}(hr:r<H.length)
 (hK:∀n' (w:Nat),(x-1≤w∧w≤x+1)→K (I w) ⟨t,dh H r st ss [n'],lp⟩):AM G Ah [.lst (l.map I),I x,.ptr r st [] s0 0 0] bs [] ⟨t,dh H r st ss [n],lp⟩ K:=by
 refine A5 Dt rfl ?_;rw [AI (by simp)];have w1:IntKind.i64.wrap ((x:Int)-1)=((x-1:Nat):Int):=by rw [Ak]<;>omega
 have w2:IntKind.i64.wrap ((x:Int)+1)=((x+1:Nat):Int):=by rw [Ak]<;>omega
 simp only [go_sem,↓reduceIte,↓Aa,BH,w1,w2];refine AaJ (by omega) (by omega) (by omega) hr (fun n1 w h=>?_);simp only [go_sem,↓reduceIte,↓Aa];exact hK _ w (by omega)
theorem FnP.some {f:FuncId}{xs:List AV}{P:AV→Prop}(h:FnP G f xs fun rs h=>P (packV (treeBL 0 h rs))∧rs.all AV.flats=true):∃v,P v∧FnT G f xs v:=by
 obtain ⟨F,n,rs,σ1,h1,h2,h3,h4,h5,h6,h7,h8⟩:=h.ok;exact ⟨_,h7,F,n,rs,σ1,h1,h2,h3,h4,h5,h6,rfl,h8⟩
theorem Agh {n:Nat}(h:n≤1000000):IntKind.i64.wrap (((n:Nat):Int).tdiv 4)=((n / 4:Nat):Int):=by
 have:((n:Nat):Int).tdiv 4=((n / 4:Nat):Int):=by
  rw [Int.tdiv_eq_ediv_of_nonneg (by omega)];omega
 rw [this,Ak]<;>omega
theorem AeT {l:List Int}{a b:Nat}(hab:a<b)(h8:8≤b-a)(hb:b≤l.length)(hl:l.length≤1000000):∃v,(∃(p:Nat) (h:Int),v = .tup [I p,I h]∧a≤p∧p<b)∧FnT G Ai [.lst (l.map I),I a,I b] v:=by
 refine FnP.some (FnP.mk' Ee rfl rfl ?_);have h8':(8:Int)≤((b-a:Nat):Int):=by omega
 have w1:IntKind.i64.wrap ((b:Int)-(a:Int))=((b-a:Nat):Int):=by rw [Ak]<;>omega
 have w2:=Agh (n:=b-a) (by omega);have w3:IntKind.i64.wrap ((((b-a) / 4:Nat):Int)*1)=(((b-a) / 4:Nat):Int):=by rw [Ak]<;>omega
 have w4:IntKind.i64.wrap ((((b-a) / 4:Nat):Int)*2)=(((b-a) / 4*2:Nat):Int):=by rw [Ak]<;>omega
 have w5:IntKind.i64.wrap ((((b-a) / 4:Nat):Int)*3)=(((b-a) / 4*3:Nat):Int):=by rw [Ak]<;>omega
 have v3:IntKind.i64.wrap ((a:Int)+(((b-a) / 4:Nat):Int))=((a+(b-a) / 4:Nat):Int):=by rw [Ak]<;>omega
 have v4:IntKind.i64.wrap ((a:Int)+(((b-a) / 4*2:Nat):Int))=((a+(b-a) / 4*2:Nat):Int):=by rw [Ak]<;>omega
 have v5:IntKind.i64.wrap ((a:Int)+(((b-a) / 4*3:Nat):Int))=((a+(b-a) / 4*3:Nat):Int):=by rw [Ak]<;>omega
 have hh:([⟨1,0,.own 1 [.int .i64 0]⟩]:List Ob)=dh [Eg] 0 1 0 [0]:=rfl;have hr:0 < [Eg].length:=by decide
 have fin:∀(n:Int) (w:Nat),a≤w→w<b→∃(p:Nat) (h:Int),AV.tup [I w,I n] = .tup [I p,I h]∧a≤p∧p<b:=fun n w h1 h2=>⟨w,n,rfl,h1,h2⟩;by_cases h50:50≤b-a
 ·have h50':(50:Int)≤((b-a:Nat):Int):=by omega
  simp only [go_sem,↓reduceIte,↓Aa,Ba,w1,w2,w3,w4,w5,v3,v4,v5,h8',h50',hh];refine Va (n:=0) (by omega) (by omega) hl hr (fun n1 x1 h1=>?_);simp only [go_sem,↓reduceIte,↓Aa];refine Va (by omega) (by omega) hl hr (fun n2 x2 h2=>?_);simp only [go_sem,↓reduceIte,↓Aa];refine Va (by omega) (by omega) hl hr (fun n3 x3 h3=>?_);simp only [go_sem,↓reduceIte,↓Aa];refine AaJ (by omega) (by omega) (by omega) hr (fun n4 x4 h4=>?_);have hn:dh [⟨0,0,.gone⟩] 0 1 0 [n4] = [⟨1,0,.own 1 [.int .i64 n4]⟩]:=rfl;simp only [go_sem,↓reduceIte,↓Aa,hn];exact ⟨fun _=>fin _ x4 (by omega) (by omega),fun _=>⟨fun _=>fin _ x4 (by omega) (by omega),fun _=>fin _ x4 (by omega) (by omega)⟩⟩
 ·have h50':¬(50:Int)≤((b-a:Nat):Int):=by omega
  simp only [go_sem,↓reduceIte,↓Aa,Ba,w1,w2,w3,w4,w5,v3,v4,v5,h8',h50',hh];refine AaJ (n:=0) (by omega) (by omega) (by omega) hr (fun n4 x4 h4=>?_);have hn:dh [⟨0,0,.gone⟩] 0 1 0 [n4] = [⟨1,0,.own 1 [.int .i64 n4]⟩]:=rfl;simp only [go_sem,↓reduceIte,↓Aa,hn];exact ⟨fun _=>fin _ x4 (by omega) (by omega),fun _=>⟨fun _=>fin _ x4 (by omega) (by omega),fun _=>fin _ x4 (by omega) (by omega)⟩⟩
def dx (H:List Ob)(r st ss:Nat)(l:List Int)(st2:Nat)(n:Int):List Ob:=dc (dh (H++[Eg]) r st ss l) H.length st2 0 n
theorem AdX {H:List Ob}{r st ss st2:Nat}{l:List Int}{n:Int}(hr:r<H.length):(dx H r st ss l st2 n)[r]? = some ⟨st,ss,.own 1 (l.map I)⟩:=by
 unfold dx dc;rw [List.getElem?_set_ne (by omega)];exact AB (by simp;omega)
theorem AdJ {H:List Ob}{r st ss st' ss' st2:Nat}{l m:List Int}{n:Int}(hr:r<H.length):(dx H r st ss l st2 n).set r ⟨st',ss',.own 1 (m.map I)⟩=dx H r st' ss' m st2 n:=by
 unfold dx dc;rw [List.set_comm _ _ (by omega),dh_set]
theorem dx_take {H:List Ob}{r st ss st2:Nat}{l:List Int}{n:Int}(hr:r<H.length):(dx H r st ss l st2 n).take H.length=dh H r st ss l:=by
 unfold dx dc dh;rw [List.take_set_of_le (Nat.le_refl _),List.set_append_left _ _ hr,List.take_append_of_le_length (by simp)];exact List.take_of_length_le (by simp)
theorem VD {x y:Nat}(h:x+y≤1000000000):IntKind.i64.wrap ((x:Int)+(y:Int))=((x+y:Nat):Int):=by rw [Ak]<;>omega
theorem AgA {x:Int}{m:Nat}(hm:m<2 ^ 64):∃w:Nat,Aa1 .u64 x (m:Int)=(w:Int)∧w≤m:=by
 unfold Aa1;refine ⟨(BitVec.ofInt 64 x&&&BitVec.ofInt 64 (m:Int)).toNat,?_,?_⟩
 ·exact IntWalk.u64_in _ ⟨by omega,by
   have:=(BitVec.ofInt 64 x&&&BitVec.ofInt 64 (m:Int)).isLt;show ((BitVec.ofInt 64 x&&&BitVec.ofInt 64 (m:Int)).toNat:Int)≤_;omega⟩
 ·rw [BitVec.toNat_and];refine Nat.le_trans Nat.and_le_right ?_;rw [BitVec.toNat_ofInt];omega
theorem Agn {l:List Int}{a b:Nat}(hab:a<b)(h8:8≤b-a)(hb:b≤l.length)(hl:l.length≤1000000){t:List AV}{lp:List Lp}{H:List Ob}{r st ss s0 bs:Nat}{K:AV→St→Prop}{L:Nat}(hL:l.length=L)(hr:r<H.length)
 (hK:∀l',SegP l l' a b→K (.tup []) ⟨t,dh H r st ss l',lp⟩):AM G Aw [.sl r st [] s0 0 L,I a,I b] bs [] ⟨t,dh H r st ss l,lp⟩ K:=by
 subst hL;refine A5 DI rfl ?_;rw [AI (by simp)];have h8':(8:Int)≤((b-a:Nat):Int):=by omega
 have w1:IntKind.i64.wrap ((b:Int)-(a:Int))=((b-a:Nat):Int):=by rw [Ak]<;>omega
 have w2:=Agh (n:=b-a) (by omega);have w4:IntKind.i64.wrap ((((b-a) / 4:Nat):Int)*2)=(((b-a) / 4*2:Nat):Int):=by rw [Ak]<;>omega
 have v4:IntKind.i64.wrap ((a:Int)+(((b-a) / 4*2:Nat):Int))=((a+(b-a) / 4*2:Nat):Int):=by rw [Ak]<;>omega
 have v5:IntKind.i64.wrap (((a+(b-a) / 4*2:Nat):Int)-1)=((a+(b-a) / 4*2-1:Nat):Int):=by rw [Ak]<;>omega
 obtain ⟨v,g1,g2,g3⟩:=AeJ (b-a) (by omega) (by omega);have hnp:∀ {fr:Bool}{roots:List Nat}{b':Nat}{ss:List Nat}{σ:St}{k:AV→St→Prop},callT G AG [.int .i64 ((b-a:Nat):Int)] fr roots b' ss σ k=k (.int .u64 ((2 ^ v:Nat):Int)) σ:=g3.rule;simp only [go_sem,↓reduceIte,↓Aa,BQ,w1,w2,w4,v4,v5,h8',hnp,Ny (show b-a≤1000000 by omega)];have e1:(dh H r st ss l++[(⟨0,0,.gone⟩:Ob)])[H.length]? = some ⟨0,0,.gone⟩:=by
  rw [List.getElem?_append_right (by rw [dh_len];exact Nat.le_refl _),dh_len,Nat.sub_self];rfl
 have e2:∀n,(dh H r st ss l++[(⟨0,0,.gone⟩:Ob)]).set H.length ⟨1,0,.own 1 [.int .u64 n]⟩=dx H r st ss l 1 n:=by
  intro n;unfold dx dc dh;rw [List.set_append_left _ _ hr,Eg]
 have e3:∀ {m n},(dx H r st ss m 1 n)[H.length]? = some ⟨1,0,.own 1 [.int .u64 n]⟩:=by
  intro m n;unfold dx;exact AdQ (by rw [dh_len];simp)
 have e4:∀ {m n n'},(dx H r st ss m 1 n).set H.length ⟨1,0,.own 1 [.int .u64 n']⟩=dx H r st ss m 1 n':=by
  intro m n n';unfold dx;exact dc_set
 have hpos:0<2 ^ v:=Nat.two_pow_pos v;have hlt64:2 ^ v<2 ^ 64:=Nat.pow_lt_pow_right (by omega) (by omega);have wm:IntKind.u64.wrap (((2 ^ v:Nat):Int)-1)=((2 ^ v-1:Nat):Int):=by
  have e:((2 ^ v:Nat):Int)-1=((2 ^ v-1:Nat):Int):=by omega
  rw [e];exact IntWalk.u64_in _ ⟨by omega,by omega⟩
 have wt:IntKind.i64.wrap (((a+(b-a) / 4*2:Nat):Int)+1)=((a+(b-a) / 4*2+1:Nat):Int):=by rw [Ak]<;>omega
 simp only [go_sem,↓reduceIte,↓Aa,e1,e2,e3,e4,dh_len,w1,w2,w4,v4,v5,hnp];refine Ac (fun (g:Nat×List Int×Int) σ=>(a+(b-a) / 4*2-1≤g.1∧g.1≤a+(b-a) / 4*2+2)∧SegP l g.2.1 a b∧σ=⟨aT .undef 65 [(0,.sl r st [] s0 0 l.length),(1,I a),(6,I ((b-a:Nat):Int)),(7,.ptr H.length 1 [] 0 0 0),(8,.int .u64 ((2 ^ v:Nat):Int)),(9,I g.1)],dx H r st ss g.2.1 1 g.2.2,lp⟩) (fun g=>a+(b-a) / 4*2+2-g.1) ?_ (a+(b-a) / 4*2-1,l,((b-a:Nat):Int)) ?_
 ·rintro ⟨i,m,n⟩ σ ⟨⟨hi1,hi2⟩,hm,rfl⟩ N Q hQ hN;simp only at hi1 hi2 hm ⊢;have hml:=hm.len;by_cases hi:i≤a+(b-a) / 4*2+1
  ·have hnx:∀ {K:AV→St→Prop}{t:List AV}{bs:Nat},(∀n',K (.int .u64 n') ⟨t,dx H r st ss m 1 n',lp⟩)→AM G AL [.ptr H.length 1 [] 0 0 0] bs [] ⟨t,dx H r st ss m 1 n,lp⟩ K:=fun hK=>next_ok (by rw [dh_len];simp) hK;simp only [go_sem,↓reduceIte,↓Aa,w1,w2,w4,v4,wt,Int.ofNat_le,hi];refine hnx (fun n'=>?_);obtain ⟨w,hw,hw2⟩:=AgA (x:=n') (m:=2 ^ v-1) (by omega);have ww:IntKind.i64.wrap (w:Int)=(w:Int):=by rw [Ak]<;>omega
   have wi:IntKind.i64.wrap ((i:Int)+1)=((i+1:Nat):Int):=by rw [Ak]<;>omega
   have bi:i<l.length:=by omega
   have bi':i<m.length:=by omega
   have go:∀o:Nat,o<b-a→SegP l (sw m i (a+o)) a b:=fun o ho=>hm.tr (sw_seg bi' (by omega) (by omega) (by omega) (by omega) (by omega));by_cases hge:b-a≤w
   ·have wo:IntKind.i64.wrap ((w:Int)-((b-a:Nat):Int))=((w-(b-a):Nat):Int):=by rw [Ak]<;>omega
    have ho:w-(b-a)<b-a:=by omega
    have wa2:=VD (x:=a) (y:=w-(b-a)) (by omega);have bo:a+(w-(b-a))<l.length:=by omega
    have bo':a+(w-(b-a))<m.length:=by omega
    simp only [go_sem,↓reduceIte,↓Aa,wm,hw,ww,Int.ofNat_le,Int.ofNat_lt,hge,wo,wa2,bi,bo,bi',bo',AdX hr,AdJ hr,wi];refine ⟨by simpa using bo',hN (i+1,sw m i (a+(w-(b-a))),n') _ (by simp only;omega) ⟨⟨by simp only;omega,by simp only;omega⟩,go _ ho,?_⟩⟩;simp only [go_sem,↓reduceIte,↓Aa,sw]
   ·have ho:w<b-a:=by omega
    have wa2:=VD (x:=a) (y:=w) (by omega);have bo:a+w<l.length:=by omega
    have bo':a+w<m.length:=by omega
    simp only [go_sem,↓reduceIte,↓Aa,wm,hw,ww,Int.ofNat_le,Int.ofNat_lt,hge,wa2,bi,bo,bi',bo',AdX hr,AdJ hr,wi];refine ⟨by simpa using bo',hN (i+1,sw m i (a+w),n') _ (by simp only;omega) ⟨⟨by simp only;omega,by simp only;omega⟩,go _ ho,?_⟩⟩;simp only [go_sem,↓reduceIte,↓Aa,sw]
  ·subst hQ;simp only [go_sem,↓reduceIte,↓Aa,w1,w2,w4,v4,wt,Int.ofNat_le,hi,dx_take hr];exact hK m hm
 ·refine ⟨⟨Nat.le_refl _,by simp only;omega⟩,SegP.refl,?_⟩;simp only [go_sem,↓reduceIte,↓Aa]
theorem MF {c d:C}{b:Nat}{σ:St}{Q:Ex→St→Prop}(R:St→Prop)(h1:Wp G c b σ (fun e σ1=>match e with | .nrm=>R σ1|e=>Q e σ1))(h2:∀σ1,R σ1→Wp G d b σ1 Q):Wp G (.seq c d) b σ Q:=by
 rw [wp_seq];refine h1.mono (fun e σ1 h=>?_);cases e with
 | nrm=>exact h2 σ1 h
 | ext i=>exact h
 | ret=>exact h
def Prt (m:List Int)(a c d b:Nat):Prop:=∀i j,a≤i→i<j→j<b→(i<c∨d≤j)→¬m[j]! < m[i]!
theorem Prt.step {m n:List Int}{a c d b c' d':Nat}(h:Prt m a c d b)(hs:SegP m n c d)(hc:a≤c)(hd:d≤b)(h1:c≤c')(h2:d'≤d)(hn:Prt n c c' d' d):Prt n a c' d' b:=by
 intro i j g1 g2 g3 g4;by_cases e1:i<c
 ·rw [hs.out i (.inl e1)];by_cases e2:j<c
  ·rw [hs.out j (.inl e2)];exact h i j g1 g2 g3 (.inl e1)
  ·by_cases e3:d≤j
   ·rw [hs.out j (.inr e3)];exact h i j g1 g2 g3 (.inl e1)
   ·exact hs.all (fun x=>¬x<m[i]!) (fun k k1 k2=>h i k g1 (by omega) (by omega) (.inl e1)) j (by omega) (by omega)
 ·by_cases e3:d≤j
  ·rw [hs.out j (.inr e3)];by_cases e4:d≤i
   ·rw [hs.out i (.inr e4)];exact h i j g1 g2 g3 (.inr e3)
   ·exact hs.all (fun x=>¬m[j]! < x) (fun k k1 k2=>h k j (by omega) (by omega) (by omega) (.inr e3)) i (by omega) (by omega)
  ·exact hn i j (by omega) g2 (by omega) g4
theorem Prt.fin {m n:List Int}{a c d b:Nat}(h:Prt m a c d b)(hs:SegP m n c d)(hc:a≤c)(hcd:c≤d)(hd:d≤b)(hn:Srt ltI n c d):Srt ltI n a b:=by
 have h1:Prt n a d d b:=h.step hs hc hd hcd (Nat.le_refl _) (fun i j g1 g2 g3 g4=>by
  have:=hn i j g1 g2 g3;unfold ltI at this;rw [decide_eq_false_iff_not] at this;exact this)
 intro i j g1 g2 g3;unfold ltI;rw [decide_eq_false_iff_not];exact h1 i j g1 g2 g3 (by omega)
theorem Prt.low {l m:List Int}{a c d b:Nat}(h:Prt m a c d b)(hl:Low l a b)(hs:SegP l m a b)(hc:a≤c)(hd:d≤b):Low m c d:=by
 by_cases e:c=a
 ·subst e;rcases hl.seg hs with h|h
  ·exact .inl h
  ·exact .inr (fun i h1 h2=>h i h1 (by omega))
 ·exact .inr (fun i h1 h2=>h (c-1) i (by omega) (by omega) (by omega) (.inl (by omega)))
def PDs (A:List (Nat×AV))(r st s0 L a b:Nat)(lim:Int)(wb wp:Bool):Prop :=
 AA .undef 0 A = .sl r st [] s0 0 L∧AA .undef 1 A=I a∧AA .undef 2 A=I b∧AA .undef 3 A=I lim∧AA .undef 8 A=Bo wb∧AA .undef 9 A=Bo wp
def PSt (r st ss s0 L:Nat)(H:List Ob)(lp:List Lp)(m:List Int)(a b:Nat)(lim:Int)(wb wp:Bool)(σ:St)(X:List (Nat×AV)→Prop):Prop :=
 ∃A,PDs A r st s0 L a b lim wb wp∧X A∧σ=⟨aT .undef 134 A,dh H r st ss m,lp⟩
theorem Af8 (d:Nat):∀ {l:List Int}{a b:Nat}{lim:Int},b-a≤d→a≤b→b≤l.length→l.length≤1000000→Low l a b→∀ {t:List AV}{lp:List Lp}{H:List Ob}{r st ss s0 bs:Nat}{K:AV→St→Prop}{L:Nat},l.length=L→r<H.length →
 (∀l',SegP l l' a b→Srt ltI l' a b→K (.tup []) ⟨t,dh H r st ss l',lp⟩)→AM G Aj [.sl r st [] s0 0 L,I a,I b,I lim] bs [] ⟨t,dh H r st ss l,lp⟩ K:=by
 induction d using Nat.strongRecOn with
 | _ d ih =>
 intro l a b lim hd hab hb hl hlow t lp H r st ss s0 bs K L hL hr hK;subst hL;refine A5 CE rfl ?_;rw [AI (by simp)];simp only [go_sem,↓reduceIte,↓Aa,Bx];refine Ac (fun (g:Nat×Nat×Int×Bool×Bool×List Int) σ=>(a≤g.1∧g.1≤g.2.1∧g.2.1≤b)∧SegP l g.2.2.2.2.2 a b∧Prt g.2.2.2.2.2 a g.1 g.2.1 b∧σ=⟨aT .undef 134 [(0,.sl r st [] s0 0 l.length),(1,I g.1),(2,I g.2.1),(3,I g.2.2.1),(8,Bo g.2.2.2.1),(9,Bo g.2.2.2.2.1)],dh H r st ss g.2.2.2.2.2,lp⟩) (fun g=>g.2.1-g.1) ?_ (a,b,lim,true,true,l) ?_
 ·rintro ⟨a',b',lim,wb,wp,m⟩ σ ⟨⟨ha,hab',hb'⟩,hm,hp,rfl⟩ N Q hQ hN;simp only at ha hab' hb' hm hp ⊢;have hml:=hm.len;have hlow':=hp.low hlow hm ha hb';have w1:IntKind.i64.wrap ((b':Int)-(a':Int))=((b'-a':Nat):Int):=by rw [Ak]<;>omega
  rw [wp_blk];refine MF (fun σ=>PSt r st ss s0 l.length H lp m a' b' lim wb wp σ (fun A=>AA .undef 10 A=I (b'-a':Nat))) ?_ ?_
  ·simp only [go_sem,↓reduceIte,↓Aa,w1];refine ⟨_,⟨?_,?_,?_,?_,?_,?_⟩,?_,rfl⟩<;>simp only [go_sem,↓reduceIte,↓Aa]
  rintro σ ⟨A,⟨h0,h1,h2,h3,h4,h5⟩,h6,rfl⟩;refine MF (fun σ=>12<b'-a'∧PSt r st ss s0 l.length H lp m a' b' lim wb wp σ (fun A=>AA .undef 10 A=I (b'-a':Nat))) ?_ ?_
  ·by_cases h12:b'-a'≤12
   ·have h12':((b'-a':Nat):Int)≤12:=by omega
    subst hQ;simp only [go_sem,↓reduceIte,↓Aa,h0,h1,h2,h3,h4,h5,h6,h12'];refine AeS hab' (by omega) (by omega) hml hr (fun n hn hs=>?_);simp only [go_sem,↓reduceIte,↓Aa];exact hK n (hm.tr (hn.wide ha hb')) (hp.fin hn ha hab' hb' hs)
   ·have h12':¬((b'-a':Nat):Int)≤12:=by omega
    simp only [go_sem,↓reduceIte,↓Aa,h0,h1,h2,h3,h4,h5,h6,h12'];refine ⟨by omega,_,⟨?_,?_,?_,?_,?_,?_⟩,?_,rfl⟩<;>simp only [go_sem,↓reduceIte,↓Aa,h0,h1,h2,h3,h4,h5,h6]
  rintro σ ⟨h12,A,⟨h0,h1,h2,h3,h4,h5⟩,h6,rfl⟩;refine MF (fun σ=>PSt r st ss s0 l.length H lp m a' b' lim wb wp σ (fun A=>AA .undef 10 A=I (b'-a':Nat))) ?_ ?_
  ·subst hQ;simp only [go_sem,↓reduceIte,↓Aa,h0,h1,h2,h3,h4,h5,h6];refine ⟨fun _=>?_,fun _=>?_⟩
   ·refine AcA (by omega) (by omega) (by omega) hml hr (fun n hn hs=>?_);simp only [go_sem,↓reduceIte,↓Aa];exact hK n (hm.tr (hn.wide ha hb')) (hp.fin hn ha hab' hb' hs)
   ·refine ⟨_,⟨?_,?_,?_,?_,?_,?_⟩,?_,rfl⟩<;>simp only [go_sem,↓reduceIte,↓Aa,h0,h1,h2,h3,h4,h5,h6]
  rintro σ ⟨A,⟨h0,h1,h2,h3,h4,h5⟩,h6,rfl⟩;refine MF (fun σ=>∃m2 lim2,SegP m m2 a' b'∧PSt r st ss s0 l.length H lp m2 a' b' lim2 wb wp σ (fun A=>AA .undef 10 A=I (b'-a':Nat))) ?_ ?_
  ·simp only [go_sem,↓reduceIte,↓Aa,h0,h1,h2,h3,h4,h5,h6];refine ⟨fun _=>?_,fun _=>?_⟩
   ·refine Agn (by omega) (by omega) (by omega) (by omega) hml hr (fun n hn=>?_);simp only [go_sem,↓reduceIte,↓Aa,h3];refine ⟨n,IntKind.i64.wrap (lim-1),hn,_,⟨?_,?_,?_,?_,?_,?_⟩,?_,rfl⟩<;>simp only [go_sem,↓reduceIte,↓Aa,h0,h1,h2,h3,h4,h5,h6]
   ·refine ⟨m,lim,SegP.refl,_,⟨?_,?_,?_,?_,?_,?_⟩,?_,rfl⟩<;>simp only [go_sem,↓reduceIte,↓Aa,h0,h1,h2,h3,h4,h5,h6]
  clear h0 h1 h2 h3 h4 h5 h6 A;rintro σ ⟨m2,lim2,hm2,A,⟨h0,h1,h2,h3,h4,h5⟩,h6,rfl⟩;have hml2:m2.length=l.length:=hm2.len.trans hml;have hle:l.length≤m2.length:=by omega
  have hv:List.map frz (List.take l.length (List.map I m2))=List.map I m2:=by
   rw [List.take_of_length_le (by simp;omega),List.map_map];rfl
  obtain ⟨v,⟨p,hint,rfl,hp1,hp2⟩,hpv⟩:=AeT (l:=m2) (a:=a') (b:=b') (by omega) (by omega) (by omega) (by omega);have hpr:∀ {fr:Bool}{roots:List Nat}{b'':Nat}{ss:List Nat}{σ:St}{k:AV→St→Prop},callT G Ai [.lst (m2.map I),.int .i64 (a':Int),.int .i64 (b':Int)] fr roots b'' ss σ k=k (.tup [I p,I hint]) σ:=hpv.rule;refine MF (fun σ=>PSt r st ss s0 l.length H lp m2 a' b' lim2 wb wp σ (fun A=>AA .undef 10 A=I (b'-a':Nat)∧AA .undef 11 A=I p∧AA .undef 12 A=I hint)) ?_ ?_
  ·simp only [go_sem,↓reduceIte,↓Aa,h0,h1,h2,h3,h4,h5,h6,hpr,hle,hv,AB hr];refine ⟨_,⟨?_,?_,?_,?_,?_,?_⟩,⟨?_,?_,?_⟩,rfl⟩<;>simp only [go_sem,↓reduceIte,↓Aa,h0,h1,h2,h3,h4,h5,h6]
  clear h0 h1 h2 h3 h4 h5 h6 A;rintro σ ⟨A,⟨h0,h1,h2,h3,h4,h5⟩,⟨h6,h7,h8⟩,rfl⟩;refine MF (fun σ=>∃m3 p hint,SegP m m3 a' b'∧(a'≤p∧p<b')∧PSt r st ss s0 l.length H lp m3 a' b' lim2 wb wp σ (fun A=>AA .undef 10 A=I (b'-a':Nat)∧AA .undef 11 A=I (p:Nat)∧AA .undef 12 A=I hint)) ?_ ?_
  ·have wq1:IntKind.i64.wrap ((b':Int)-1)=((b'-1:Nat):Int):=by rw [Ak]<;>omega
   have wq2:IntKind.i64.wrap ((p:Int)-(a':Int))=((p-a':Nat):Int):=by rw [Ak]<;>omega
   have wq3:IntKind.i64.wrap (((b'-1:Nat):Int)-((p-a':Nat):Int))=((b'-1-(p-a'):Nat):Int):=by rw [Ak]<;>omega
   simp only [go_sem,↓reduceIte,↓Aa,h0,h1,h2,h3,h4,h5,h6,h7,h8];refine ⟨fun _=>?_,fun _=>?_⟩
   ·refine Ae1 (by omega) (by omega) (by omega) hml2 hr (fun n hn=>?_);simp only [go_sem,↓reduceIte,↓Aa,h1,h2,h7,wq1,wq2,wq3];refine ⟨n,b'-1-(p-a'),1,hm2.tr hn,⟨by omega,by omega⟩,_,⟨?_,?_,?_,?_,?_,?_⟩,⟨?_,?_,?_⟩,rfl⟩<;>simp only [go_sem,↓reduceIte,↓Aa,h0,h1,h2,h3,h4,h5,h6]
   ·refine ⟨m2,p,hint,hm2,⟨hp1,hp2⟩,_,⟨?_,?_,?_,?_,?_,?_⟩,⟨?_,?_,?_⟩,rfl⟩<;>simp only [go_sem,↓reduceIte,↓Aa,h0,h1,h2,h3,h4,h5,h6,h7,h8]
  clear h0 h1 h2 h3 h4 h5 h6 h7 h8 A hp1 hp2 hpr hpv hint p hv hle hml2 hm2 m2;rintro σ ⟨m2,p,hint,hm2,⟨hp1,hp2⟩,A,⟨h0,h1,h2,h3,h4,h5⟩,⟨h6,h7,h8⟩,rfl⟩;have hml2:m2.length=l.length:=hm2.len.trans hml;refine MF (fun σ=>∃m3,SegP m m3 a' b'∧PSt r st ss s0 l.length H lp m3 a' b' lim2 wb wp σ (fun A=>AA .undef 10 A=I (b'-a':Nat)∧AA .undef 11 A=I (p:Nat))) ?_ ?_
  ·subst hQ;have out:∀A,PDs A r st s0 l.length a' b' lim2 wb wp→AA .undef 10 A=I (b'-a':Nat)→AA .undef 11 A=I p→∃m3,SegP m m3 a' b'∧PSt r st ss s0 l.length H lp m3 a' b' lim2 wb wp ⟨aT .undef 134 A,dh H r st ss m2,lp⟩ (fun A=>AA .undef 10 A=I (b'-a':Nat)∧AA .undef 11 A=I (p:Nat)) :=
    fun A g1 g2 g3=>⟨m2,hm2,A,g1,⟨g2,g3⟩,rfl⟩
   cases wb with
   | false =>
     simp only [go_sem,↓reduceIte,↓Aa,h0,h1,h2,h3,h4,h5,h6,h7,h8];refine out _ ⟨?_,?_,?_,?_,?_,?_⟩ ?_ ?_<;>simp only [go_sem,↓reduceIte,↓Aa,h0,h1,h2,h3,h4,h5,h6,h7,h8]
   | true =>
     cases wp with
     | false =>
       simp only [go_sem,↓reduceIte,↓Aa,h0,h1,h2,h3,h4,h5,h6,h7,h8];refine out _ ⟨?_,?_,?_,?_,?_,?_⟩ ?_ ?_<;>simp only [go_sem,↓reduceIte,↓Aa,h0,h1,h2,h3,h4,h5,h6,h7,h8]
     | true =>
       simp only [go_sem,↓reduceIte,↓Aa,h0,h1,h2,h3,h4,h5,h6,h7,h8];refine ⟨fun _=>?_,fun _=>?_⟩
       ·refine Agy (by omega) (by omega) (by omega) (hlow'.seg hm2) hml2 hr (fun n q hn hq=>?_);cases q with
        | true =>
          simp only [go_sem,↓reduceIte,↓Aa];have:=hm2.tr hn;exact hK n (hm.tr (this.wide ha hb')) (hp.fin this ha hab' hb' (hq rfl))
        | false =>
          simp only [go_sem,↓reduceIte,↓Aa];refine ⟨n,hm2.tr hn,_,⟨?_,?_,?_,?_,?_,?_⟩,⟨?_,?_⟩,rfl⟩<;>simp only [go_sem,↓reduceIte,↓Aa,h0,h1,h2,h3,h4,h5,h6,h7,h8]
       ·refine out _ ⟨?_,?_,?_,?_,?_,?_⟩ ?_ ?_<;>simp only [go_sem,↓reduceIte,↓Aa,h0,h1,h2,h3,h4,h5,h6,h7,h8]
  clear h0 h1 h2 h3 h4 h5 h6 h7 h8 A hml2 hm2 m2 hint;rintro σ ⟨m2,hm2,A,⟨h0,h1,h2,h3,h4,h5⟩,⟨h6,h7⟩,rfl⟩;have hml2:m2.length=l.length:=hm2.len.trans hml;have hlow2:=hlow'.seg hm2;have hp2':=hp.step hm2 ha hb' (Nat.le_refl _) (Nat.le_refl _) (fun i j g1 g2 g3 g4=>by omega);refine MF (fun σ=>PSt r st ss s0 l.length H lp m2 a' b' lim2 wb wp σ (fun A=>AA .undef 10 A=I (b'-a':Nat)∧AA .undef 11 A=I (p:Nat))) ?_ ?_
  ·have w2:IntKind.i64.wrap ((a':Int)-1)=((a'-1:Nat):Int)∨a'=0:=by
    by_cases e:a'=0
    ·exact .inr e
    ·refine .inl ?_;rw [Ak]<;>omega
   have b1:p<l.length:=by omega
   have b2:a'-1<l.length:=by omega
   have b1':p<m2.length:=by omega
   have b2':a'-1<m2.length:=by omega
   by_cases h0a:a'=0
   ·have hn:¬(0:Int)<(a':Int):=by omega
    simp only [go_sem,↓reduceIte,↓Aa,h0,h1,h2,h3,h4,h5,h6,h7,hn];refine ⟨_,⟨?_,?_,?_,?_,?_,?_⟩,⟨?_,?_⟩,rfl⟩<;>simp only [go_sem,↓reduceIte,↓Aa,h0,h1,h2,h3,h4,h5,h6,h7]
   ·have hn:(0:Int)<(a':Int):=by omega
    have w2:IntKind.i64.wrap ((a':Int)-1)=((a'-1:Nat):Int):=by rw [Ak]<;>omega
    by_cases hlt:m2[a'-1]! < m2[p]!
    ·simp only [go_sem,↓reduceIte,↓Aa,h0,h1,h2,h3,h4,h5,h6,h7,hn,w2,Int.ofNat_lt,b1,b2,b1',b2',AB hr,hlt];refine ⟨_,⟨?_,?_,?_,?_,?_,?_⟩,⟨?_,?_⟩,rfl⟩<;>simp only [go_sem,↓reduceIte,↓Aa,h0,h1,h2,h3,h4,h5,h6,h7]
    ·simp only [go_sem,↓reduceIte,↓Aa,h0,h1,h2,h3,h4,h5,h6,h7,hn,w2,Int.ofNat_lt,b1,b2,b1',b2',AB hr,hlt];refine AgC hp1 hp2 (by omega) (by omega) hml2 hr (fun n i hn=>?_);simp only [go_sem,↓reduceIte,↓Aa];have q1:=hn.ai;have q2:=hn.ib;refine hN (i,b',lim2,wb,wp,n) _ (by simp only;omega) ⟨⟨by simp only;omega,hn.ib,hb'⟩,hm.tr ((hm2.tr hn.seg).wide ha hb'),?_,?_⟩
     ·refine hp2'.step hn.seg ha hb' (by simp only;omega) (Nat.le_refl _) ?_;intro x y g1 g2 g3 g4;show ¬n[y]! < n[x]!;simp only at g4;have hxi:x<i:=by omega
      have hx:=hn.lo x g1 hxi;have hy:¬n[y]! < m2[p]!:=by
       rcases hlow2 with h|h
       ·omega
       ·exact hn.seg.all (fun z=>¬z<m2[p]!) (fun k k1 k2=>by have:=h k k1 k2;omega) y (by omega) g3
      exact fun hyx=>by omega
     ·simp only [go_sem,↓reduceIte,↓Aa,h0,h1,h2,h3,h4,h5]
  clear h0 h1 h2 h3 h4 h5 h6 h7 A;rintro σ ⟨A,⟨h0,h1,h2,h3,h4,h5⟩,⟨h6,h7⟩,rfl⟩;simp only [go_sem,↓reduceIte,↓Aa,h0,h1,h2,h3,h4,h5,h6,h7];refine AbK hp1 hp2 (by omega) (by omega) hml2 hr (fun n j v hn=>?_);have q1:=hn.aj;have q2:=hn.jb;have hnl:n.length=l.length:=hn.seg.len.trans hml2;have x1:IntKind.i64.wrap ((j:Int)-(a':Int))=((j-a':Nat):Int):=by rw [Ak]<;>omega
  have x2:IntKind.i64.wrap ((b':Int)-(j:Int))=((b'-j:Nat):Int):=by rw [Ak]<;>omega
  have x3:IntKind.i64.wrap ((j:Int)+1)=((j+1:Nat):Int):=by rw [Ak]<;>omega
  simp only [go_sem,↓reduceIte,↓Aa,h0,h1,h2,h3,h4,h5,h6,h7,x1,x2,x3];have key:∀x,a'≤x→x<j→n[x]! < n[j]!:=fun x g1 g2=>by
   have:=hn.lo x g1 g2;unfold ltI at this;rw [decide_eq_true_eq] at this;exact this
  have key2:∀x,j<x→x<b'→¬n[x]! < n[j]!:=fun x g1 g2=>by
   have:=hn.hi x g1 g2;unfold ltI at this;rw [decide_eq_false_iff_not] at this;exact this
  refine ⟨fun _=>?_,fun _=>?_⟩
  ·refine ih (j-a') (by omega) (Nat.le_refl _) q1 (by omega) (by omega) ?_ hnl hr (fun n2 hn2 hs2=>?_)
   ·rcases hlow2.seg hn.seg with h|h
    ·exact .inl h
    ·exact .inr (fun i h1 h2=>h i h1 (by omega))
   ·simp only [go_sem,↓reduceIte,↓Aa,x3,h0,h2,h3];refine hN (j+1,b',lim2,decide (IntKind.i64.wrap (((b'-a':Nat):Int).tdiv 8)≤((j-a':Nat):Int)),v,n2) _ (by simp only;omega) ⟨⟨by simp only;omega,by simp only;omega,hb'⟩,hm.tr ((hm2.tr (hn.seg.tr (hn2.wide (Nat.le_refl _) (by omega)))).wide ha hb'),?_,?_⟩
    ·refine hp2'.step (hn.seg.tr (hn2.wide (Nat.le_refl _) (by omega))) ha hb' (by simp only;omega) (Nat.le_refl _) ?_;intro x y g1 g2 g3 g4;show ¬n2[y]! < n2[x]!;simp only at g4;have hxj:x<j+1:=by omega
     have hy:∀y,j≤y→n2[y]! = n[y]!:=fun y hy=>hn2.out y (.inr hy);by_cases e:x=j
     ·rw [e,hy y (by omega),hy j (Nat.le_refl _)];exact key2 y (by omega) g3
     ·have hx:n2[x]! < n[j]!:=hn2.all (fun z=>z<n[j]!) (fun k k1 k2=>key k k1 k2) x g1 (by omega);by_cases e2:y<j
      ·have:=hs2 x y g1 g2 e2;unfold ltI at this;rw [decide_eq_false_iff_not] at this;exact this
      ·rw [hy y (by omega)];by_cases e3:y=j
       ·rw [e3];exact fun h=>by omega
       ·have:=key2 y (by omega) g3;exact fun h=>by omega
    ·simp only [go_sem,↓reduceIte,↓Aa,h0,h2,h3]
  ·refine ih (b'-(j+1)) (by omega) (Nat.le_refl _) (by omega) (by omega) (by omega) ?_ hnl hr (fun n2 hn2 hs2=>?_)
   ·exact .inr (fun i h1 h2=>key2 i (by omega) h2)
   ·simp only [go_sem,↓reduceIte,↓Aa,h0,h1,h3];refine hN (a',j,lim2,decide (IntKind.i64.wrap (((b'-a':Nat):Int).tdiv 8)≤((b'-j:Nat):Int)),v,n2) _ (by simp only;omega) ⟨⟨ha,by simp only;omega,by simp only;omega⟩,hm.tr ((hm2.tr (hn.seg.tr (hn2.wide (by omega) (Nat.le_refl _)))).wide ha hb'),?_,?_⟩
    ·refine hp2'.step (hn.seg.tr (hn2.wide (by omega) (Nat.le_refl _))) ha hb' (Nat.le_refl _) (by simp only;omega) ?_;intro x y g1 g2 g3 g4;show ¬n2[y]! < n2[x]!;simp only at g4;have hjy:j≤y:=by omega
     have hx:∀x,x≤j→n2[x]! = n[x]!:=fun x hx=>hn2.out x (.inl (by omega));by_cases e:y=j
     ·rw [e,hx x (by omega),hx j (Nat.le_refl _)];have:=key x g1 (by omega);exact fun h=>by omega
     ·have hy:¬n2[y]! < n[j]!:=hn2.all (fun z=>¬z<n[j]!) (fun k k1 k2=>key2 k (by omega) k2) y (by omega) g3;by_cases e2:j<x
      ·have:=hs2 x y (by omega) g2 g3;unfold ltI at this;rw [decide_eq_false_iff_not] at this;exact this
      ·rw [hx x (by omega)];by_cases e3:x=j
       ·rw [e3];exact hy
       ·have:=key x g1 (by omega);exact fun h=>by omega
    ·simp only [go_sem,↓reduceIte,↓Aa,h0,h1,h3]
 ·refine ⟨⟨Nat.le_refl _,hab,Nat.le_refl _⟩,SegP.refl,fun i j g1 g2 g3 g4=>by simp only at g4;omega,?_⟩;simp only [go_sem,↓reduceIte,↓Aa]
theorem Ww {l:List Int}(hl:l.length≤1000000){t:List AV}{lp:List Lp}{H:List Ob}{r st ss s0 bs:Nat}{K:AV→St→Prop}{L:Nat}(hL:l.length=L)(hr:r<H.length)
 (hK:∀l',SegP l l' 0 l.length→Srt ltI l' 0 l.length→K (.tup []) ⟨t,dh H r st ss l',lp⟩):AM G BT [.sl r st [] s0 0 L] bs [] ⟨t,dh H r st ss l,lp⟩ K:=by
 subst hL;refine A5 Hc rfl ?_;rw [AI (by simp)];obtain ⟨v,g1,g2,g3⟩:=Vu l.length hl;have hr':∀ {fr:Bool}{roots:List Nat}{b:Nat}{ss:List Nat}{σ:St}{k:AV→St→Prop},callT G A0 [.int .u64 (l.length:Int)] fr roots b ss σ k=k (I v) σ:=g3.rule;simp only [go_sem,↓reduceIte,↓Aa,DZ,Ny hl,hr',AB hr];refine Af8 l.length (l:=l) (a:=0) (b:=l.length) (by omega) (by omega) (Nat.le_refl _) hl (.inl rfl) rfl hr (fun l' h1 h2=>?_);simp only [go_sem,↓reduceIte,↓Aa];exact hK l' h1 h2
theorem Ae9 {v:AV}{t:List AV}{h:List Ob}{lp:List Lp}{bs:Nat}{K:AV→St→Prop}(hK:K (.tup []) ⟨t,h,lp⟩):AM G Am [v,I 0,I 0] bs [] ⟨t,h,lp⟩ K:=by
 refine A5 BP rfl ?_;rw [AI (by simp)];have w1:IntKind.i64.wrap 1=1:=by decide
 simp only [go_sem,↓reduceIte,↓Aa,AX,w1];refine Ac (fun (_:Unit) σ=>σ=⟨aT .undef 49 [(0,v),(1,I 0),(2,I 0),(6,I 1)],h,lp⟩) (fun _=>0) ?_ () ?_
 ·rintro _ σ rfl N Q hQ hN;subst hQ;have h0:¬(1:Int)<0:=by decide
  have ht:List.take h.length h=h:=List.take_length;simp only [go_sem,↓reduceIte,↓Aa,h0,ht];exact hK
 ·simp only [go_sem,↓reduceIte,↓Aa,w1]
theorem Aep {v:AV}{n:Int}{t:List AV}{h:List Ob}{lp:List Lp}{bs:Nat}{K:AV→St→Prop}(hK:K (.tup []) ⟨t,h,lp⟩):AM G Aj [v,I 0,I 0,I n] bs [] ⟨t,h,lp⟩ K:=by
 refine A5 CE rfl ?_;rw [AI (by simp)];have w1:IntKind.i64.wrap 0=0:=by decide
 have ht:List.take h.length h=h:=List.take_length;simp only [go_sem,↓reduceIte,↓Aa,Bx];refine Ac (fun (_:Unit) σ=>σ=⟨aT .undef 134 [(0,v),(1,I 0),(2,I 0),(3,I n),(8,Bo true),(9,Bo true)],h,lp⟩) (fun _=>0) ?_ () ?_
 ·rintro _ σ rfl N Q hQ hN;subst hQ;have h0:(0:Int)≤12:=by decide
  simp only [go_sem,↓reduceIte,↓Aa,Int.sub_self,w1,h0];refine Ae9 ?_;simp only [go_sem,↓reduceIte,↓Aa,ht];exact hK
 ·simp only [go_sem,↓reduceIte,↓Aa]
theorem Ac3 {v:AV}(hv:v = .nils∨v = .emp){t:List AV}{h:List Ob}{lp:List Lp}{bs:Nat}{K:AV→St→Prop}(hK:K (.tup []) ⟨t,h,lp⟩):AM G BT [v] bs [] ⟨t,h,lp⟩ K:=by
 refine A5 Hc rfl ?_;rw [AI (by simp)];obtain ⟨n,_,_,g3⟩:=Vu 0 (by omega);have hr':∀ {fr:Bool}{roots:List Nat}{b:Nat}{ss:List Nat}{σ:St}{k:AV→St→Prop},callT G A0 [.int .u64 0] fr roots b ss σ k=k (I n) σ:=g3.rule;have wu:IntKind.u64.wrap 0=0:=by decide
 have ht:List.take h.length h=h:=List.take_length;rcases hv with rfl|rfl
 all_goals
  simp only [go_sem,↓reduceIte,↓Aa,DZ,wu,hr'];refine Aep ?_;simp only [go_sem,↓reduceIte,↓Aa,ht];exact hK
theorem Aek {l m:List Int}(hl:l.Pairwise (· < ·))(hm:m.Pairwise (· < ·))(h:∀v,v∈l↔v∈m):l=m:=by
 have hp:l.Perm m:=(List.perm_ext_iff_of_nodup (hl.imp fun h e=>by omega) (hm.imp fun h e=>by omega)).2 h;exact List.Perm.eq_of_pairwise (le:=fun a b:Int=>a≤b) (fun a b _ _ h1 h2=>Int.le_antisymm h1 h2) (hl.imp fun h=>by omega) (hm.imp fun h=>by omega) hp
theorem WF {l:List Int}{k i:Nat}(h:i<k)(hl:k≤l.length):(l.take k)[i]! = l[i]!:=by
 rw [getElem!_pos _ i (by rw [List.length_take];omega),List.getElem_take,getElem!_pos l i (by omega)]
theorem ZZ {l:List Int}{k i:Nat}{v:Int}(hk:k<l.length):(l.set k v)[i]! = if k=i then v else l[i]!:=KG hk
structure Cpt (l m:List Int)(k n:Nat):Prop where
 len:m.length=l.length
 k1:k<n
 n1:n≤l.length
 k0:0<k
 pw:(m.take k).Pairwise (· < ·)
 mem:∀v,v∈m.take k↔v∈l.take n
 rest:∀j,n≤j+1→j<l.length→m[j]! = l[j]!
theorem Cpt.skip {l m:List Int}{k n:Nat}(h:Cpt l m k n)(hn:n<l.length)(he:l[n]! = l[n-1]!):Cpt l m k (n+1):=by
 have hk:=h.k1;have hk0:=h.k0;refine ⟨h.len,by omega,by omega,h.k0,h.pw,fun v=>?_,fun j hj hjl=>h.rest j (by omega) hjl⟩;rw [List.take_succ_eq_append_getElem hn,List.mem_append,List.mem_singleton,←h.mem v,←getElem!_pos l n hn,he];constructor
 ·exact .inl
 ·rintro (h1|rfl)
  ·exact h1
  ·rw [h.mem,List.mem_take_iff_getElem];exact ⟨n-1,by omega,by rw [getElem!_pos l (n-1) (by omega)]⟩
theorem Cpt.step {l m:List Int}{k n:Nat}(h:Cpt l m k n)(hs:∀i j,i<j→j<l.length→l[i]!≤l[j]!)(hn:n<l.length)(he:l[n]!≠l[n-1]!):Cpt l (m.set k l[n]!) (k+1) (n+1):=by
 have hk:=h.k1;have hk0:=h.k0;have hl:=h.len;have ht:(m.set k l[n]!).take (k+1)=m.take k++[l[n]!]:=by
  rw [List.take_succ_eq_append_getElem (by rw [List.length_set];omega),List.getElem_set_self];congr 1;apply List.ext_getElem?;intro i;rw [List.getElem?_take,List.getElem?_take];split
  ·rw [List.getElem?_set_ne (by omega)]
  ·rfl
 refine ⟨by rw [List.length_set];exact hl,by omega,by omega,by omega,?_,fun v=>?_,fun j hj hjl=>?_⟩
 ·rw [ht,List.pairwise_append];refine ⟨h.pw,by simp,fun a ha b hb=>?_⟩;rw [List.mem_singleton] at hb;subst hb;have:=(h.mem a).1 ha;obtain ⟨i,hi,e⟩:=List.mem_take_iff_getElem.1 this;have e2:a=l[i]!:=by rw [getElem!_pos l i (by omega)];exact e.symm
  rw [e2];have h1:=hs (n-1) n (by omega) hn;have h2:l[i]!≤l[n-1]!:=by
   rcases Nat.lt_or_eq_of_le (show i≤n-1 by omega) with h3|rfl
   ·exact hs i (n-1) h3 (by omega)
   ·omega
  omega
 ·rw [ht,List.mem_append,List.mem_singleton,h.mem,List.take_succ_eq_append_getElem hn,List.mem_append,List.mem_singleton,getElem!_pos l n hn]
 ·rw [ZZ (by omega),if_neg (by omega)];exact h.rest j (by omega) hjl
theorem Cpt.start {l:List Int}{k:Nat}(hk0:0<k)(hk:k<l.length)(hlt:∀i,0<i→i<k→l[i-1]!≠l[i]!)(hs:∀i j,i<j→j<l.length→l[i]!≤l[j]!)(he:l[k]! = l[k-1]!):Cpt l l k (k+1):=by
 refine ⟨rfl,by omega,by omega,hk0,?_,fun v=>?_,fun j _ _=>rfl⟩
 ·refine EN fun i hi h0=>?_;rw [List.length_take] at hi;rw [WF (by omega) (by omega),WF (by omega) (by omega)];have:=hs (i-1) i (by omega) (by omega);have:=hlt i h0 (by omega);omega
 ·rw [List.take_succ_eq_append_getElem hk,List.mem_append,List.mem_singleton,←getElem!_pos l k hk,he];constructor
  ·exact .inl
  ·rintro (h1|rfl)
   ·exact h1
   ·rw [List.mem_take_iff_getElem];exact ⟨k-1,by omega,by rw [getElem!_pos l (k-1) (by omega)]⟩
theorem Ye {z:AV}{x:Opd}{b:Nat}{t:List AV}{lp:List Lp}{H:List Ob}{r st ss s0 off len:Nat}{l:List Int}{k:AV→St→Prop}(hr:r<H.length)(hz:z.plain=true)(hl:off+len≤l.length)
 (hx:(⟨t,dh H r st ss l,lp⟩:St).get x = .sl r st [] s0 off len) (z0:Int) (hz0:z=I z0) :
 wpI G (.clr z x) b ⟨t,dh H r st ss l,lp⟩ k=k (.tup []) ⟨t,dh H r st ss (l.take off++List.replicate len z0++l.drop (off+len)),lp⟩:=by
 subst hz0;have hn:node (dh H r st ss l) r st [] s0=some (.own 1 (l.map I)):=AaH.2 ⟨_,AB hr,rfl,rfl⟩;have hp:(l.map I).all AV.plain=true:=by rw [List.all_eq_true];intro e he;obtain ⟨n,_,rfl⟩:=List.mem_map.1 he;rfl
 have hs:setOb (dh H r st ss l) r [] (.own 1 ((l.map I).take off++List.replicate len (I z0)++(l.map I).drop (off+len))) false=some (dh H r st ss (l.take off++List.replicate len z0++l.drop (off+len))):=by
  simp only [setOb,AB hr,upd];congr 1;unfold dh;rw [List.set_set];simp [List.map_take,List.map_drop]
 simp only [wpI,ax,hx,hn];rw [if_pos ⟨trivial,by simpa using hl,hp,hz⟩,hs];rfl
theorem Nx {B r st ss off len:Nat}{p:Path}{h:List Ob}(hr:r<B):treeB B h (.sl r st p ss off len) = .sl r st p ss off len:=by
 simp only [treeB,hr,if_true]
theorem AdG {l:List Int}(hl:l.length≤1000000)(hs:∀i j,i<j→j<l.length→l[i]!≤l[j]!){t:List AV}{lp:List Lp}{H:List Ob}{r st ss s0 bs:Nat}{K:AV→St→Prop}{L:Nat}(hL:l.length=L)(hr:r<H.length)
 (hK:∀m k,m.length=l.length→k≤m.length→(m.take k).Pairwise (· < ·)→(∀v,v∈m.take k↔v∈l)→K (.sl r st [] s0 0 k) ⟨t,dh H r st ss m,lp⟩):AM G Bl [.sl r st [] s0 0 L] bs [] ⟨t,dh H r st ss l,lp⟩ K:=by
 subst hL;refine A5 EK rfl ?_;rw [AI (by simp)];simp only [go_sem,↓reduceIte,↓Aa,CR,AB hr];refine ⟨fun h2=>?_,fun h2=>?_⟩
 ·rw [Nx hr];refine hK l l.length rfl (Nat.le_refl _) ?_ (fun v=>by rw [List.take_length]);rw [List.take_length];exact EN fun i hi h0=>by omega
 have w1:IntKind.i64.wrap 1=1:=by decide
 refine Ac (fun (k:Nat) σ=>1≤k∧k≤l.length∧(∀i,0<i→i<k→l[i-1]!≠l[i]!)∧σ=⟨aT .undef 61 [(0,.sl r st [] s0 0 l.length),(3,I k)],dh H r st ss l,lp⟩) (fun k=>l.length-k) ?_ 1 ?_
 ·rintro k σ ⟨hk1,hk2,hne,rfl⟩ N Q hQ hN;by_cases hlt:k<l.length
  ·have w2:IntKind.i64.wrap ((k:Int)-1)=((k-1:Nat):Int):=by rw [Ak]<;>omega
   have hk3:k-1<l.length:=by omega
   simp only [go_sem,↓reduceIte,↓Aa,Int.ofNat_lt,hlt,AB hr,w2,hk3];refine ⟨fun he=>⟨by omega,?_⟩,fun he=>?_⟩
   ·have he':l[k]! = l[k-1]!:=by simpa using he
    refine Ac (fun (g:Nat×Nat×List Int) σ=>1≤g.1∧Cpt l g.2.2 g.2.1 (k+g.1)∧σ=⟨aT .undef 61 [(0,.sl r st [] s0 0 l.length),(3,I g.2.1),(4,.sl r st [] s0 k (l.length-k)),(5,I g.1)],dh H r st ss g.2.2,lp⟩) (fun g=>l.length-(k+g.1)) ?_ (1,k,l) ?_
    ·rintro ⟨j,q,m⟩ σ ⟨hj,hc,rfl⟩ N2 Q2 hQ2 hN2;simp only at hj hc;have hml:=hc.len;have hq1:=hc.k1;have hn1:=hc.n1;by_cases hlt2:j<l.length-k
     ·have w3:IntKind.i64.wrap ((j:Int)-1)=((j-1:Nat):Int):=by rw [Ak]<;>omega
      have g1:k+j<m.length:=by omega
      have g2:k+(j-1)<m.length:=by omega
      have g3:j-1<l.length-k:=by omega
      have r1:=hc.rest (k+j) (by omega) (by omega);have r2:=hc.rest (k+(j-1)) (by omega) (by omega);have g4:k+(j-1)=k+j-1:=by omega
      have g5:k+j<l.length:=by omega
      have gq:q<l.length:=by omega
      have gqm:q<m.length:=by omega
      have w4:=Ab hlt2 (show l.length-k≤1000000000 by omega);have w5:IntKind.i64.wrap ((q:Int)+1)=((q+1:Nat):Int):=by rw [Ak]<;>omega
      simp only [go_sem,↓reduceIte,↓Aa,Int.ofNat_lt,hlt2,AB hr,w3,w4,w5,g1,g2,g3,gq,gqm];rw [r1,r2,g4];refine ⟨fun h3=>hN2 (j+1,q+1,m.set q l[k+j]!) _ (by simp only;omega) ⟨by simp only;omega,hc.step hs g5 (by simpa using h3),?_⟩,fun h3=>hN2 (j+1,q,m) _ (by simp only;omega) ⟨by simp only;omega,hc.skip g5 (by simpa using h3),?_⟩⟩
      ·simp only [go_sem,↓reduceIte,↓Aa]
      ·simp only [go_sem,↓reduceIte,↓Aa]
     ·have hjl:k+j=l.length:=by omega
      subst hQ2;simp only [go_sem,↓reduceIte,↓Aa,Int.ofNat_lt,hlt2,AB hr];refine ⟨by omega,?_⟩;rw [Ye (s0:=s0) hr rfl (show q+(l.length-q)≤m.length by omega) (by simp only [go_sem,↓reduceIte,↓Aa]) 0 rfl];have hfl:(m.take q++List.replicate (l.length-q) 0++m.drop (q+(l.length-q))).length=l.length:=by simp;omega
      have hft:(m.take q++List.replicate (l.length-q) 0++m.drop (q+(l.length-q))).take q=m.take q:=by
       rw [List.append_assoc,List.take_append_of_le_length (by rw [List.length_take];omega),List.take_take,Nat.min_self]
      have hk:=hK _ q hfl (by omega) (by rw [hft];exact hc.pw) (fun v=>by rw [hft,hc.mem,hjl,List.take_length]);generalize m.take q++List.replicate (l.length-q) 0++m.drop (q+(l.length-q))=m' at *;simp only [go_sem,↓reduceIte,↓Aa,AB hr,Nx hr];refine ⟨by omega,?_⟩;subst hQ;simp only [go_sem,↓reduceIte,↓Aa,Nx hr,Nat.sub_zero];exact hk
    ·refine ⟨Nat.le_refl _,Cpt.start (k:=k) (by omega) hlt hne hs he',?_⟩;simp only [go_sem,↓reduceIte,↓Aa]
   ·have he':l[k]!≠l[k-1]!:=by simpa using he
    simp only [Ab hlt (show l.length≤1000000000 by omega)];refine hN (k+1) _ (by omega) ⟨by omega,by omega,fun i h1 h2=>?_,?_⟩
    ·rcases Nat.lt_or_eq_of_le (show i≤k by omega) with h3|rfl
     ·exact hne i h1 h3
     ·exact fun h=>he' h.symm
    ·simp only [go_sem,↓reduceIte,↓Aa]
  ·have hkl:k=l.length:=by omega
   subst hQ;simp only [go_sem,↓reduceIte,↓Aa,Int.ofNat_lt,hlt,AB hr,Nx hr];refine hK l l.length rfl (Nat.le_refl _) ?_ (fun v=>by rw [List.take_length]);rw [List.take_length];refine EN fun i hi h0=>?_;have:=hne i h0 (by omega);have:=hs (i-1) i (by omega) hi;omega
 ·refine ⟨by omega,by omega,fun i h1 h2=>by omega,?_⟩;simp only [go_sem,↓reduceIte,↓Aa,w1]
def atL (l:List Int)(x:Int):Nat:=(l.takeWhile fun v=>decide (v<x)).length
def NA (l:List Int)(x:Int):List Int:=if atL l x<l.length∧l[atL l x]! = x then l else l.take (atL l x)++x::l.drop (atL l x)
def uniL (a b:List Int):List Int:=b.foldl NA a
theorem AdZ {l:List Int}{x:Int}:atL l x≤l.length:=by
 unfold atL;exact (List.takeWhile_prefix _).length_le
theorem atL_lt {l:List Int}{x:Int}:∀i<atL l x,l[i]! < x:=by
 induction l with
 | nil=>intro i hi;simp [atL] at hi
 | cons v l ih =>
   intro i hi;unfold atL at hi ih;rw [List.takeWhile_cons] at hi;by_cases hv:v<x
   ·rw [if_pos (by simpa using hv)] at hi;cases i with
    | zero=>exact hv
    | succ i=>simp only [List.length_cons,List.getElem!_cons_succ] at hi ⊢;exact ih i (by omega)
   ·rw [if_neg (by simpa using hv)] at hi;simp at hi
theorem atL_ge {l:List Int}{x:Int}:atL l x<l.length→¬l[atL l x]! < x:=by
 induction l with
 | nil=>intro h;simp at h
 | cons v l ih =>
   intro h hlt;unfold atL at h hlt ih;rw [List.takeWhile_cons] at h hlt;by_cases hv:v<x
   ·rw [if_pos (by simpa using hv)] at h hlt;simp only [List.length_cons,List.getElem!_cons_succ] at h hlt;exact ih (by omega) hlt
   ·rw [if_neg (by simpa using hv)] at h hlt;simp only [List.length_nil,List.getElem!_cons_zero] at hlt;exact hv hlt
theorem AdT {l:List Int}{x:Int}{i:Nat}(hi:i≤l.length)(h1:∀j<i,l[j]! < x)(h2:i<l.length→¬l[i]! < x):i=atL l x:=by
 have ha:=@AdZ l x;rcases Nat.lt_trichotomy i (atL l x) with h|h|h
 ·exact absurd (atL_lt i h) (h2 (by omega))
 ·exact h
 ·exact absurd (h1 _ h) (atL_ge (by omega))
theorem putL_mem {l:List Int}{x v:Int}:v∈NA l x↔v∈l∨v=x:=by
 unfold NA;split
 ·rename_i h;constructor
  ·exact .inl
  ·rintro (h1|rfl)
   ·exact h1
   ·rw [←h.2];exact AU h.1
 ·have hl:=List.take_append_drop (atL l x) l;have:v∈l↔v∈l.take (atL l x)∨v∈l.drop (atL l x):=by rw [←List.mem_append,hl]
  rw [List.mem_append,List.mem_cons,this];constructor
  ·rintro (h|h|h)
   ·exact .inl (.inl h)
   ·exact .inr h
   ·exact .inl (.inr h)
  ·rintro ((h|h)|h)
   ·exact .inl h
   ·exact .inr (.inr h)
   ·exact .inr (.inl h)
theorem putL_ris {l:List Int}(h:l.Pairwise (· < ·)){x:Int}:(NA l x).Pairwise (· < ·):=by
 unfold NA;split
 ·exact h
 ·rename_i hne;have hl:=List.take_append_drop (atL l x) l;have hp:=h;rw [←hl,List.pairwise_append] at hp;have hlt:∀v∈l.take (atL l x),v<x:=fun v hv=>by
   obtain ⟨i,hi,e⟩:=List.mem_take_iff_getElem.1 hv;have:=atL_lt (l:=l) (x:=x) i (by omega);rw [getElem!_pos l i (by omega),e] at this;exact this
  have hgt:∀v∈l.drop (atL l x),x<v:=fun v hv=>by
   obtain ⟨i,hi,e⟩:=List.mem_iff_getElem.1 hv;rw [List.length_drop] at hi;rw [List.getElem_drop] at e;have h0:¬l[atL l x]! < x:=atL_ge (by omega);have h1:l[atL l x]!≠x:=fun e2=>hne ⟨by omega,e2⟩;have h2:l[atL l x]!≤v:=by
    rw [←e];rcases Nat.eq_zero_or_pos i with rfl|hi0
    ·rw [getElem!_pos l (atL l x) (by omega)];simp
    ·have:=List.pairwise_iff_getElem.1 h (atL l x) (atL l x+i) (by omega) (by omega) (by omega);rw [getElem!_pos l (atL l x) (by omega)];omega
   omega
  rw [List.pairwise_append,List.pairwise_cons];exact ⟨hp.1,⟨hgt,hp.2.1⟩,fun a ha b hb=>by
   rcases List.mem_cons.1 hb with rfl|hb
   ·exact hlt a ha
   ·exact hp.2.2 a ha b hb⟩
theorem uniL_mem {b:List Int}{v:Int}:∀ {a:List Int},v∈uniL a b↔v∈a∨v∈b:=by
 induction b with
 | nil=>intro a;simp [uniL]
 | cons x b ih =>
   intro a;show v∈uniL (NA a x) b↔_;rw [ih,putL_mem,List.mem_cons,or_assoc]
theorem QR {b:List Int}:∀ {a:List Int},a.Pairwise (· < ·)→(uniL a b).Pairwise (· < ·):=by
 induction b with
 | nil=>intro a h;exact h
 | cons x b ih=>intro a h;exact ih (putL_ris h)
theorem Abh {a b m:List Int}(ha:a.Pairwise (· < ·))(hm:m.Pairwise (· < ·))(h:∀v,v∈m↔v∈a++b):m=uniL a b :=
 Aek hm (QR ha) fun v=>by rw [h,uniL_mem,List.mem_append]
theorem P3 {fr:Bool}{roots:List Nat}{b s:Nat}{σ:St}{k:AV→St→Prop}:callT G AR [.lst []] fr roots b [s] σ k=k .emp σ :=
 callT_of (n:=30) (h:=σ.h) FA rfl rfl
theorem Aai {l:List Int}:(l.map I).all (fun e:AV=>e.cells.all AV.plain)=true:=by
 rw [List.all_eq_true];intro x hx;obtain ⟨n,_,rfl⟩:=List.mem_map.1 hx;rfl
theorem Zq (l:List Int)(h0:l≠[])(hl:l.length≤1048576):FnO G AR [.lst (l.map I)] 1 (l.map I):=by
 cases l with
 | nil=>exact absurd rfl h0
 | cons x l =>
   refine FnQ.own1 (FnQ.mk' FA rfl rfl ?_) Aai;simp only [go_sem,↓reduceIte,↓Aa,FK];exact ⟨fun h=>by simp at h,fun _=>⟨⟨by simp at hl;omega,rfl⟩,1,1,[],0,rfl,rfl⟩⟩
theorem Agu {t:List AV}{h:List Ob}{lp:List Lp}{bs:Nat}{K:AV→St→Prop}(hK:K (.lst []) ⟨t,h,lp⟩):AM G Bl [.emp] bs [] ⟨t,h,lp⟩ K:=by
 refine A5 EK rfl ?_;rw [AI (by simp)];have ht:List.take h.length h=h:=List.take_length;simp only [go_sem,↓reduceIte,↓Aa,CR,ht];exact hK
theorem AdS {m:List Int}(h:Srt ltI m 0 m.length):∀i j,i<j→j<m.length→m[i]!≤m[j]!:=fun i j hij hj=>by
 have:=h i j (Nat.zero_le _) hij hj;unfold ltI at this;rw [decide_eq_false_iff_not] at this;omega
theorem RV {x:AV}{xs ys:List AV}{es bytes:Nat}{h:List Ob}{r:Nat}{q:AV→List Ob→Prop}(hx:xs≠[]) :
 VC x xs ys es bytes h r q=((xs.length+ys.length≤4294967296∧0<bytes∧bytes≤4096∧0<es∧x.isLst=false)∧LX h r (.own es (xs++ys)) (fun h st=>q (.sl r st [] 0 0 (xs.length+ys.length)) h)):=by
 cases xs with
 | nil=>exact absurd rfl hx
 | cons y xs=>simp [VC]
theorem WC {l:List Int}:(l.map I).map frz=l.map I:=by rw [List.map_map];rfl
theorem Aa0 (a b:List Int)(ha:a.Pairwise (· < ·))(hla:a.length≤50000)(hlb:b.length≤50000):Fn G CZ [.lst (a.map I),.lst (b.map I)] (.lst ((uniL a b).map I)):=by
 refine FnP.mk' RC rfl rfl ?_;by_cases h0:a = []
 ·subst h0;by_cases h1:b = []
  ·subst h1;simp only [go_sem,↓reduceIte,↓Aa,Ff,List.map_nil,P3];refine Ac3 (.inr rfl) ?_;simp only [go_sem,↓reduceIte,↓Aa];refine Agu ?_;simp only [go_sem,↓reduceIte,↓Aa];rfl
  ·simp only [go_sem,↓reduceIte,↓Aa,Ff,List.map_nil,P3];refine ⟨by omega,?_⟩;have e:List.map I b≠[]:=by simpa using h1
   simp only [KC,Mp,sta,ssa,if_neg e,List.length_map];have hh:([⟨0,0,.gone⟩,⟨0+1,0,.own 1 (b.map I)⟩]:List Ob)=dh [⟨0,0,.gone⟩,Eg] 1 1 0 b:=rfl;rw [hh];refine Ww (by omega) rfl (by simp) (fun l' h1 h2=>?_);have hlen:=h1.len;simp only [go_sem,↓reduceIte,↓Aa];refine AdG (by omega) (AdS (by rw [hlen];exact h2)) (by omega) (by simp) (fun m k h3 h4 h5 h6=>?_);have hm:m.take k=uniL [] b:=Abh List.Pairwise.nil h5 fun v=>by rw [h6,h1.perm.mem_iff,List.nil_append]
   have hd:dh [⟨0,0,.gone⟩,⟨0,0,.gone⟩] 1 1 0 m = [⟨0,0,.gone⟩,⟨1,0,.own 1 (m.map I)⟩]:=rfl;rw [←hm];simp only [go_sem,↓reduceIte,↓Aa,hd];rw [if_pos h4,←List.map_take,WC]
 ·have hc:∀ {fr:Bool}{roots:List Nat}{b s:Nat}{σ:St}{k:AV→St→Prop},callT G AR [.lst (a.map I)] fr roots b [s] σ k=LX (if fr then σ.h else Ao σ.h roots) (b+s) (.own 1 (a.map I)) (fun h st=>k (.sl (b+s) st [] 0 0 (a.map I).length) { σ with h }):=(Zq a h0 (by omega)).rule;have e:List.map I a≠[]:=by simpa using h0
  simp only [go_sem,↓reduceIte,↓Aa,Ff,hc,RV e];refine ⟨⟨by omega,rfl⟩,?_⟩;have hh:([⟨1,0,.gone⟩,⟨1,0,.own 1 (a.map I++b.map I)⟩]:List Ob)=dh [⟨1,0,.gone⟩,Eg] 1 1 0 (a++b):=by
   unfold dh;rw [List.map_append];rfl
  rw [hh];refine Ww (by simp;omega) (by simp) (by simp) (fun l' h1 h2=>?_);have hlen:=h1.len;simp only [go_sem,↓reduceIte,↓Aa];refine AdG (by simp at hlen;omega) (AdS (by rw [hlen];exact h2)) (by simp at hlen;omega) (by simp) (fun m k h3 h4 h5 h6=>?_);have hm:m.take k=uniL a b:=Abh ha h5 fun v=>by rw [h6,h1.perm.mem_iff]
  have hd:dh [⟨1,0,.gone⟩,⟨0,0,.gone⟩] 1 1 0 m = [⟨1,0,.gone⟩,⟨1,0,.own 1 (m.map I)⟩]:=rfl;rw [←hm];simp only [go_sem,↓reduceIte,↓Aa,hd];rw [if_pos h4,←List.map_take,WC]
end Go.Mw
