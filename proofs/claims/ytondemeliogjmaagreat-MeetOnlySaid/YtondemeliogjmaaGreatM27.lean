/- meet.without: the walk. -/
import Derived.Test.YtondemeliogjmaaGreatM26
set_option linter.unusedVariables false
set_option linter.unusedSimpArgs false
namespace Go.Mw
set_option maxRecDepth 100000
def rI (X:List Int):AV:=.own 1 (X.map I)
theorem Ai8 {l:List (List Int)}:(l.map rI).map frz=l.map eW:=by
 rw [List.map_map];refine List.map_congr_left fun w hw=>?_;simp only [Function.comp,rI,eW,go_sem,K0]
theorem Aa2 (n:Nat)(acts:List ByteArray)(hn:acts.length=n)(h8:n≤8):FnO G Bj [.pfro [.lst (acts.map .str)]] 1 ((List.replicate n (-1)).map I):=by
 refine FnQ.own1 (FnQ.mk' OE rfl rfl ?_) (by rw [List.map_replicate,List.all_eq_true];intro x hx;rw [(List.mem_replicate.1 hx).2];rfl);subst hn;simp only [go_sem,↓reduceIte,↓Aa,KD,AfC h8];exact ⟨1,1,[],0,rfl,by rw [List.map_replicate];rfl⟩
theorem AaN (acts:List ByteArray)(ha:acts.length≤8)(ws:List (List Int))(hl:ws.length≤1048576)(hsum:sumW ws≤10000)(hr:∀w∈ws,∀x∈w,0≤x∧x<(acts.length:Int)) :
 ∃wd nx en,TI acts.length ws [] wd nx en∧Fn G BX [.lst (acts.map .str),.lst (ws.map eW)] (.tup [.lst (nx.map eW),.lst (en.map Bo)]):=by
 suffices hh:FnP G BX [.lst (acts.map .str),.lst (ws.map eW)] (fun rs h=>∃wd nx en,TI acts.length ws [] wd nx en∧packV (treeBL 0 h rs) = .tup [.lst (nx.map eW),.lst (en.map Bo)]) by
  obtain ⟨v,⟨wd,nx,en,h1,rfl⟩,hf⟩:=FnP.ex (P:=fun v=>∃wd nx en,TI acts.length ws [] wd nx en∧v = .tup [.lst (nx.map eW),.lst (en.map Bo)]) hh;exact ⟨wd,nx,en,h1,hf⟩
 have hrow:∀ {fr:Bool}{roots:List Nat}{b s:Nat}{σ:St}{k:AV→St→Prop},callT G Bj [.pfro [.lst (acts.map .str)]] fr roots b [s] σ k=OC (if fr then σ.h else At σ.h roots) (b+s) (.own 1 ((List.replicate acts.length (-1)).map I)) (fun h st=>k (.sl (b+s) st [] 0 0 ((List.replicate acts.length (-1)).map I).length) { σ with h }):=(Aa2 _ acts rfl ha).rule;refine FnP.mk' Q5 rfl rfl ?_;simp only [go_sem,↓reduceIte,↓Aa,L0,hrow,Nd HT];refine Ad (fun (g:Nat×List (List Int)×List (List Int)×List Bool) σ=>g.1≤ws.length∧TI acts.length (ws.take g.1) [] g.2.1 g.2.2.1 g.2.2.2∧∃s2 t2 s3 t3 a0 c0 a1 c1 a4 c4 a5 c5 a6 c6 a7 c7 a8 c8,mv1 0 5 3 (mv1 0 4 2 σ)=⟨aT .undef 67 [(5,.sl 3 s3 [] 0 0 g.2.2.2.length),(4,.sl 2 s2 [] 0 0 g.2.2.1.length),(6,.fn Bj [.pfro [.lst (acts.map .str)]]),(17,.lst (ws.map eW)),(18,I ws.length),(19,I g.1)],[⟨a0,c0,.gone⟩,⟨a1,c1,.gone⟩,⟨s2,t2,.own 1 (g.2.2.1.map rI)⟩,⟨s3,t3,.own 1 (g.2.2.2.map Bo)⟩,⟨a4,c4,.gone⟩,⟨a5,c5,.gone⟩,⟨a6,c6,.gone⟩,⟨a7,c7,.gone⟩,⟨a8,c8,.gone⟩],[]⟩) (fun g=>ws.length-g.1) ?_ (0,[[]],[List.replicate acts.length (-1)],[false]) ?_
 ·rintro ⟨i,wd,nx,en⟩ σ ⟨hi,hT,s2,t2,s3,t3,a0,c0,a1,c1,a4,c4,a5,c5,a6,c6,a7,c7,a8,c8,hσ⟩ N Q hQ hN;simp only at hi hT hσ;rw [LR,LR,hσ];have hcnt:=hT.cnt;have hl1:=hT.l1;have hl2:=hT.l2;by_cases hlt:i<ws.length
  ·generalize hwe:ws[i]! = w at *;have hwm:w∈ws:=by rw [←hwe];exact AJ hlt
   have hwl:=SZ hwm;have hrw:=hr w hwm;have htake:ws.take (i+1)=ws.take i++[w]:=by rw [List.take_succ_eq_append_getElem hlt,←getElem!_pos ws i hlt,hwe]
   have hsum2:∀k,sumW (ws.take k)≤sumW ws:=fun k=>by
    have e:sumW ws=sumW (ws.take k)+sumW (ws.drop k):=by
     unfold sumW;rw [←List.sum_append,←List.map_append,List.take_append_drop]
    omega
   have hs1:=hsum2 i;simp only [go_sem,↓reduceIte,↓Aa,Int.ofNat_lt,hlt,eW,hwe];refine Ad (fun (g:Nat×List (List Int)×List (List Int)×List Bool×Nat) σ=>g.1≤w.length∧TI acts.length (ws.take i) (w.take g.1) g.2.1 g.2.2.1 g.2.2.2.1∧g.2.2.2.2<g.2.1.length∧g.2.1[g.2.2.2.2]! = w.take g.1∧∃s2 t2 s3 t3 a0 c0 a1 c1 a4 c4 a5 c5 a6 c6 a7 c7 a8 c8,mv1 0 5 3 (mv1 0 4 2 σ)=⟨aT .undef 67 [(5,.sl 3 s3 [] 0 0 g.2.2.2.1.length),(4,.sl 2 s2 [] 0 0 g.2.2.1.length),(6,.fn Bj [.pfro [.lst (acts.map .str)]]),(9,I g.2.2.2.2),(17,.lst (ws.map eW)),(18,I ws.length),(19,I i),(23,.lst (w.map I)),(24,I w.length),(25,I g.1)],[⟨a0,c0,.gone⟩,⟨a1,c1,.gone⟩,⟨s2,t2,.own 1 (g.2.2.1.map rI)⟩,⟨s3,t3,.own 1 (g.2.2.2.1.map Bo)⟩,⟨a4,c4,.gone⟩,⟨a5,c5,.gone⟩,⟨a6,c6,.gone⟩,⟨a7,c7,.gone⟩,⟨a8,c8,.gone⟩],[]⟩) (fun g=>w.length-g.1) ?_ (0,wd,nx,en,0) ?_
   ·rintro ⟨k,wd,nx,en,x⟩ σ ⟨hk,hT,hx,hxw,s2,t2,s3,t3,a0,c0,a1,c1,a4,c4,a5,c5,a6,c6,a7,c7,a8,c8,hσ⟩ N2 Q2 hQ2 hN2;simp only at hk hT hx hxw hσ;rw [LR,LR,hσ];have hcnt:=hT.cnt;have hl1:=hT.l1;have hl2:=hT.l2;have hxn:x<nx.length:=by omega
    have hxe:x<en.length:=by omega
    have hctl:(w.take k).length≤w.length:=by rw [List.length_take];omega
    by_cases hlt2:k<w.length
    ·obtain ⟨an,han,hal⟩:∃an:Nat,w[k]! = an∧an<acts.length:=by
      have:=hrw _ (AJ hlt2);exact ⟨w[k]!.toNat,by omega,by omega⟩
     have htk:w.take (k+1)=w.take k++[(an:Int)]:=by rw [List.take_succ_eq_append_getElem hlt2,←getElem!_pos w k hlt2,han]
     have hrx:=hT.row x hx;have hax:an<nx[x]!.length:=by omega
     by_cases h0:nx[x]![an]! < 0
     ·have hnew:=hT.new hx hxw hal h0;rw [←hl1] at hnew;have hf:(wd++[w.take k++[(an:Int)]])[nx.length]! = w.take k++[(an:Int)]:=by rw [B1,if_pos hl1]
      obtain ⟨v,hv⟩:∃v,nx[x]!.set an (nx.length:Int)=v:=⟨_,rfl⟩;have hva:v[an]! = (nx.length:Int):=by rw [←hv,getSetG hax,if_pos rfl]
      have hvl:an<v.length:=by rw [←hv,List.length_set];exact hax
      rw [hv] at hnew;obtain ⟨N1,hN1⟩:∃N1,nx.set x v=N1:=⟨_,rfl⟩;have eset:(nx.map rI).set x (.own 1 (v.map I))=N1.map rI:=by rw [←hN1,List.map_set];rfl
      have hN1l:N1.length=nx.length:=by rw [←hN1,List.length_set]
      have hN1x:N1[x]! = v:=by rw [←hN1,getSetG hxn,if_pos rfl]
      rw [hN1] at hnew;have etake:List.take nx.length (N1.map rI)=N1.map rI:=List.take_of_length_le (by rw [List.length_map];omega);obtain ⟨NX,hNX⟩:∃NX,N1++[List.replicate acts.length (-1)]=NX:=⟨_,rfl⟩;have esn:N1.map rI++[.own 1 ((List.replicate acts.length (-1)).map I)]=NX.map rI:=by rw [←hNX,List.map_append];rfl
      have hNXl:NX.length=nx.length+1:=by rw [←hNX,List.length_append,hN1l];rfl
      have hNXx:NX[x]! = v:=by rw [←hNX,B1,if_neg (by omega)];exact hN1x
      rw [hNX] at hnew;have hxN:x<NX.length:=by omega
      have eb:en.map Bo++[.bool false]=(en++[false]).map Bo:=by rw [List.map_append];rfl
      simp only [go_sem,↓reduceIte,↓Aa,Int.ofNat_lt,hlt2,han,hxn,rI,hax,h0,Ab hlt2 (show w.length≤1000000000 by omega),hrow,hv,eset,etake,esn,hN1l,hNXx,hva,hvl,hxN,hNXl];refine ⟨⟨by omega,rfl⟩,⟨by omega,rfl⟩,hN2 (k+1,wd++[w.take k++[(an:Int)]],NX,en++[false],nx.length) _ (by simp only;omega) ⟨by simp only;omega,by simp only [htk];exact hnew,by simp only [List.length_append,List.length_singleton];omega,by simp only [htk];exact hf,?_⟩⟩;simp only [go_sem,↓reduceIte,↓Aa,eb];rw [Mu (r:=6) rfl rfl rfl (by decide) (by rw [List.length_map,hNXl]) (by decide)];simp only [go_sem,↓reduceIte,↓Aa];rw [Mu (r:=8) rfl rfl rfl (by decide) (by simp) (by decide)];simp only [go_sem,↓reduceIte,↓Aa,hNXl,List.length_append,List.length_singleton];repeat apply Exists.intro
      rfl
     ·have hold:=hT.old hx hxw hal (by omega);obtain ⟨y,hy⟩:∃y:Nat,nx[x]![an]! = y:=⟨nx[x]![an]!.toNat,by omega⟩;rw [hy,Int.toNat_natCast] at hold;have h0':¬(y:Int)<0:=by omega
      simp only [go_sem,↓reduceIte,↓Aa,Int.ofNat_lt,hlt2,han,hxn,rI,hax,hy,h0',Ab hlt2 (show w.length≤1000000000 by omega)];refine hN2 (k+1,wd,nx,en,y) _ (by simp only;omega) ⟨by simp only;omega,by simp only [htk];exact hold.1,hold.2.1,by simp only [htk];exact hold.2.2,?_⟩;simp only [go_sem,↓reduceIte,↓Aa];rw [Bt rfl (by decide),Bt rfl (by decide)];simp only [go_sem,↓reduceIte,↓Aa];repeat apply Exists.intro
      rfl
    ·have hkl:k=w.length:=by omega
     subst hkl hQ2;rw [List.take_length] at hT hxw;simp only [go_sem,↓reduceIte,↓Aa,Int.ofNat_lt,hlt2,hxe,Ab hlt (show ws.length≤1000000000 by omega)];have hfin:=hT.fin hx hxw;rw [←htake] at hfin;refine hN (i+1,wd,nx,en.set x true) _ (by simp only;omega) ⟨by simp only;omega,hfin,?_⟩;simp only [go_sem,↓reduceIte,↓Aa];rw [Bt rfl (by decide),Bt rfl (by decide)];simp only [go_sem,↓reduceIte,↓Aa,List.map_set,List.length_set];repeat apply Exists.intro
     rfl
   ·refine ⟨Nat.zero_le _,hT,hT.pos,hT.zero,?_⟩;simp only [go_sem,↓reduceIte,↓Aa];rw [Bt rfl (by decide),Bt rfl (by decide)];simp only [go_sem,↓reduceIte,↓Aa];repeat apply Exists.intro
    rfl
  ·have hil:i=ws.length:=by omega
   subst hil hQ;simp only [go_sem,↓reduceIte,↓Aa,Int.ofNat_lt,hlt];rw [List.take_length] at hT;refine ⟨wd,nx,en,hT,?_⟩;rw [Ai8]
 ·refine ⟨Nat.zero_le _,TI.start,?_⟩;simp only [go_sem,↓reduceIte,↓Aa];rw [Bt rfl (by decide),Bt rfl (by decide)];simp only [go_sem,↓reduceIte,↓Aa];repeat apply Exists.intro
  rfl
theorem tree_dh {H:List Ob}{r st ss s0:Nat}{m:List Int}(hr:r<H.length):treeB 0 (dh H r st ss m) (.sl r st [] s0 0 m.length) = .lst (m.map I):=by
 have hn:node (dh H r st ss m) r st [] s0=some (.own 1 (m.map I)):=Uz.2 ⟨_,Oo hr,rfl,rfl⟩;simp only [treeB,Nat.not_lt_zero,if_false,AaI,hn,List.length_map,Nat.zero_add,Nat.le_refl,if_true,List.drop_zero];rw [show m.length=(m.map I).length by rw [List.length_map],List.take_length,K0]
structure Dlt (q:Int→Bool)(l m:List Int)(k j:Nat):Prop where
 len:m.length=l.length
 kj:k<j
 jl:j≤l.length
 tk:m.take k=(l.take j).filter fun v => !q v
 rest:∀i,j≤i→i<l.length→m[i]! = l[i]!
theorem Dlt.keep {q:Int→Bool}{l m:List Int}{k j:Nat}(h:Dlt q l m k j)(hj:j<l.length)(hq:q l[j]! = false):Dlt q l (m.set k l[j]!) (k+1) (j+1):=by
 have hl:=h.len;have hk:=h.kj;refine ⟨by rw [List.length_set];exact hl,by omega,by omega,?_,fun i h1 h2=>?_⟩
 ·rw [List.take_succ_eq_append_getElem (by rw [List.length_set];omega),List.take_succ_eq_append_getElem hj,List.filter_append,←h.tk,List.getElem_set_self,List.take_set_of_le (Nat.le_refl _),←getElem!_pos l j hj];simp only [List.filter_cons,hq,Bool.not_false,Bool.not_true,if_true,Bool.false_eq_true,if_false,List.filter_nil,List.append_nil]
 ·rw [getSetG (by omega),if_neg (by omega)];exact h.rest i (by omega) h2
theorem Dlt.drop {q:Int→Bool}{l m:List Int}{k j:Nat}(h:Dlt q l m k j)(hj:j<l.length)(hq:q l[j]! = true):Dlt q l m k (j+1):=by
 refine ⟨h.len,by have:=h.kj;omega,by omega,?_,fun i h1 h2=>h.rest i (by omega) h2⟩;rw [List.take_succ_eq_append_getElem hj,List.filter_append,←h.tk,←getElem!_pos l j hj];simp only [List.filter_cons,hq,Bool.not_false,Bool.not_true,if_true,Bool.false_eq_true,if_false,List.filter_nil,List.append_nil]
theorem Dlt.start {q:Int→Bool}{l:List Int}{k:Nat}(hk:k<l.length)(hq:q l[k]! = true)(hb:∀j<k,q l[j]! = false):Dlt q l l k (k+1):=by
 refine ⟨rfl,by omega,by omega,?_,fun i h1 h2=>rfl⟩;rw [List.take_succ_eq_append_getElem hk,List.filter_append,←getElem!_pos l k hk];have e:(l.take k).filter (fun v => !q v)=l.take k:=List.filter_eq_self.2 fun v hv=>by
  obtain ⟨j,hj,e⟩:=List.mem_iff_getElem.1 hv;rw [List.length_take] at hj;rw [List.getElem_take] at e;have:=hb j (by omega);rw [getElem!_pos l j (by omega),e] at this;simp [this]
 rw [e];simp only [List.filter_cons,hq,Bool.not_false,Bool.not_true,if_true,Bool.false_eq_true,if_false,List.filter_nil,List.append_nil]
theorem AhH {l:List Int}(hl:l.length≤1000000){f:FuncId}{cs ds:List AV}{q:Int→Bool}(hp:PureF G f){t:List AV}{lp:List Lp}{H:List Ob}{r st ss s0 bs:Nat}{K:AV→St→Prop}(hr:r<H.length)
 (ht:∀m,treeBL 0 (dh H r st ss m) cs=ds) (hd:∀h,treeBL 0 h ds=ds) (hok:∀i<l.length,FnT G f (I l[i]!::ds) (Bo (q l[i]!)))
 (hK:∀m k,m.length=l.length→k≤m.length→m.take k=l.filter (fun v => !q v)→K (.sl r st [] s0 0 k) ⟨t,dh H r st ss m,lp⟩):CO G Bb [.sl r st [] s0 0 l.length,.fn f cs] bs [] ⟨t,dh H r st ss l,lp⟩ K:=by
 refine Lk D4 rfl ?_;rw [Jn (by simp)];obtain ⟨v,hv,he⟩:=QF l (by omega) f ds q hp hd hok;have hcall:∀ {fr:Bool}{roots:List Nat}{b:Nat}{ss:List Nat}{σ:St}{k:AV→St→Prop},callT G Ah [.lst (l.map I),.fn f ds] fr roots b ss σ k=k (I v) σ:=hv.rule;simp only [go_sem,↓reduceIte,↓Aa,B7,Oo hr,tree_dh hr,ht,hcall];rcases he with ⟨k0,hk0,rfl,hq0,hb0⟩|⟨rfl,hb0⟩
 ·refine ⟨fun h=>?_,fun _=>?_⟩
  ·simp at h
  have w1:IntKind.i64.wrap ((k0:Int)+1)=((k0+1:Nat):Int):=by rw [L7]<;>omega
  rw [w1];refine Ad (fun (g:Nat×Nat×List Int) σ=>Dlt q l g.2.2 g.1 g.2.1∧σ=⟨aT .undef 42 [(0,.sl r st [] s0 0 l.length),(1,.fn f cs),(5,I g.1),(6,I g.2.1)],dh H r st ss g.2.2,lp⟩) (fun g=>l.length-g.2.1) ?_ (k0,k0+1,l) ?_
  ·rintro ⟨k,j,m⟩ σ ⟨hc,rfl⟩ N Q hQ hN;simp only at hc;have hml:=hc.len;have hkj:=hc.kj;have hjl:=hc.jl;by_cases hlt:j<l.length
   ·have hjm:j<m.length:=by omega
    have hkm:k<m.length:=by omega
    have hkl:k<l.length:=by omega
    have hr1:=hc.rest j (Nat.le_refl _) hlt;have hcf:∀ {fr:Bool}{roots:List Nat}{b:Nat}{ss:List Nat}{σ:St}{k:AV→St→Prop},callT G f (I l[j]!::ds) fr roots b ss σ k=k (Bo (q l[j]!)) σ:=(hok j hlt).rule;have w2:=Ab hlt (show l.length≤1000000000 by omega);have w3:IntKind.i64.wrap ((k:Int)+1)=((k+1:Nat):Int):=by rw [L7]<;>omega
    rcases Bool.eq_false_or_eq_true (q l[j]!) with hq|hq
    ·simp only [go_sem,↓reduceIte,↓Aa,Int.ofNat_lt,hlt,Oo hr,hjm,hr1,hp,ht,hcf,hq,w2];exact hN (k,j+1,m) _ (by simp only;omega) ⟨hc.drop hlt hq,by simp only [go_sem,↓reduceIte,↓Aa]⟩
    ·simp only [go_sem,↓reduceIte,↓Aa,Int.ofNat_lt,hlt,Oo hr,hjm,hkm,hkl,hr1,hp,ht,hcf,hq,w2,w3];exact hN (k+1,j+1,m.set k l[j]!) _ (by simp only;omega) ⟨hc.keep hlt hq,by simp only [go_sem,↓reduceIte,↓Aa]⟩
   ·have hjl2:j=l.length:=by omega
    subst hQ;simp only [go_sem,↓reduceIte,↓Aa,Int.ofNat_lt,hlt,Oo hr];refine ⟨by omega,?_⟩;rw [wpI_clr_dh (s0:=s0) hr rfl (show k+(l.length-k)≤m.length by omega) (by simp only [go_sem,↓reduceIte,↓Aa]) 0 rfl];have hfl:(m.take k++List.replicate (l.length-k) 0++m.drop (k+(l.length-k))).length=l.length:=by simp;omega
    have hft:(m.take k++List.replicate (l.length-k) 0++m.drop (k+(l.length-k))).take k=m.take k:=by
     rw [List.append_assoc,List.take_append_of_le_length (by rw [List.length_take];omega),List.take_take,Nat.min_self]
    have hk:=hK _ k hfl (by omega) (by rw [hft,hc.tk,hjl2,List.take_length]);generalize m.take k++List.replicate (l.length-k) 0++m.drop (k+(l.length-k))=m' at *;simp only [go_sem,↓reduceIte,↓Aa,Oo hr,Yp hr];exact ⟨by omega,hk⟩
  ·exact ⟨Dlt.start hk0 hq0 hb0,by simp only [go_sem,↓reduceIte,↓Aa]⟩
 ·refine ⟨fun _=>?_,fun h=>absurd h (by decide)⟩;rw [Yp hr];refine hK l l.length rfl (Nat.le_refl _) ?_;rw [List.take_length];refine (List.filter_eq_self.2 fun v hv=>?_).symm;obtain ⟨j,hj,e⟩:=getAt hv;rw [←e,hb0 j hj];rfl
theorem AfE {f:FuncId}{cs ds:List AV}(hp:PureF G f){t:List AV}{lp:List Lp}{h:List Ob}{bs:Nat}{K:AV→St→Prop}
 (ht:treeBL 0 h cs=ds) (hd:∀h,treeBL 0 h ds=ds) (hK:K (.lst []) ⟨t,h,lp⟩):CO G Bb [.emp,.fn f cs] bs [] ⟨t,h,lp⟩ K:=by
 refine Lk D4 rfl ?_;rw [Jn (by simp)];obtain ⟨v,hv,he⟩:=QF [] (by simp) f ds (fun _=>true) hp hd (fun i hi=>by simp at hi);have hv1:v=-1:=by
  rcases he with ⟨k,hk,_⟩|⟨h,_⟩
  ·simp at hk
  ·exact h
 subst hv1;have hcall:∀ {fr:Bool}{roots:List Nat}{b:Nat}{ss:List Nat}{σ:St}{k:AV→St→Prop},callT G Ah [.lst [],.fn f ds] fr roots b ss σ k=k (I (-1)) σ:=hv.rule;have htk:List.take h.length h=h:=List.take_length;simp only [go_sem,↓reduceIte,↓Aa,B7,ht,hcall,htk];exact hK
def Pg (nx:List (List Int))(u:Int)(a:Nat):Int:=if u<0 then -1 else nx[u.toNat]![a]!
structure TW (n:Nat)(nx:List (List Int))(en:List Bool):Prop where
 n8:n≤8
 l:en.length=nx.length
 row:∀u<nx.length,nx[u]!.length=n
 lt:∀u<nx.length,∀a<n,-1≤nx[u]![a]!∧nx[u]![a]! < (nx.length:Int)
theorem TI.tw {n:Nat}{seen wd nx:List (List Int)}{en:List Bool}{c:List Int}(h:TI n seen c wd nx en)(h8:n≤8):TW n nx en:=by
 have h1:=h.l1;refine ⟨h8,by rw [h.l2,h1],fun u hu=>h.row u (by omega),fun u hu a ha=>?_⟩;by_cases h0:0≤nx[u]![a]!
 ·have:=(h.e1 u (by omega) a ha h0).1;omega
 ·have:=(h.e2 u (by omega) a ha (by omega)).1;omega
abbrev pnW (nx:List (List Int)):AV:=.pfro [.lst (nx.map eW)]
abbrev paW (nx:List (List Int)):AV:=.pfro [.fn A4 [pnW nx]]
abbrev peW (en:List Bool):AV:=.pfro [.lst (en.map Bo)]
section
variable {n:Nat}{nx:List (List Int)}{en:List Bool}(hT:TW n nx en)
include hT
theorem TW.aft {u:Int}(hu:u<(nx.length:Int)){a:Nat}(ha:a<n) : -1≤Pg nx u a∧Pg nx u a<(nx.length:Int):=by
 unfold Pg;split
 ·omega
 ·exact hT.lt _ (by omega) a ha
theorem Y7 {u:Int}(hu:u<(nx.length:Int)){a:Nat}(ha:a<n):FnT G A4 [I u,I a,pnW nx] (I (Pg nx u a)):=by
 refine FnP.mk' Sq rfl rfl ?_;by_cases h0:u<0
 ·simp only [go_sem,↓reduceIte,↓Aa,Kd,h0,Pg,if_true]
 ·obtain ⟨x,rfl⟩:∃x:Nat,u=x:=⟨u.toNat,by omega⟩;have hx:x<nx.length:=by omega
  have hr:=hT.row x hx;have hax:a<nx[x]!.length:=by omega
  simp only [go_sem,↓reduceIte,↓Aa,Kd,h0,Pg,if_false,eW,hx,hax,Int.toNat_natCast]
def Afo (nx:List (List Int))(en:List Bool)(u v:Int):Bool:=(List.range 8).any fun a=>hasA v a&&(decide (0≤Pg nx u a)&&en[(Pg nx u a).toNat]!)
theorem Nm {u v:Int}(hv:0≤v∧v<((2 ^ n:Nat):Int)):Afo nx en u v=true↔∃a,a<n∧hasA v a=true∧0≤Pg nx u a∧en[(Pg nx u a).toNat]! = true:=by
 have h8:=hT.n8;unfold Afo;simp only [List.any_eq_true,List.mem_range,Bool.and_eq_true,decide_eq_true_eq];constructor
 ·rintro ⟨a,h1,h2,h3,h4⟩;exact ⟨a,AO (n:=v.toNat) (by omega) h2,h2,h3,h4⟩
 ·rintro ⟨a,h1,h2,h3,h4⟩;exact ⟨a,by omega,h2,h3,h4⟩
theorem Adr {x u v:Int}(hu:u<(nx.length:Int))(hv:0≤v∧v<((2 ^ n:Nat):Int)):FnT G B8 [I v,paW nx,.pfro [I x,I u],peW en] (Bo (Afo nx en u v)):=by
 have h8:=hT.n8;have h28:2 ^ n≤2 ^ 8:=Nat.pow_le_pow_right (by omega) h8;obtain ⟨k,rfl⟩:∃k:Nat,v=k:=⟨v.toNat,by omega⟩;refine FnP.mk' Jc rfl rfl ?_;simp only [go_sem,↓reduceIte,↓Aa,Lf];refine AdH k (by omega) (by simp only [go_sem,↓reduceIte,↓Aa]) (fun a h=>(∀b<a,k.testBit b=true→¬(0≤Pg nx u b∧en[(Pg nx u b).toNat]! = true))∧h=_) ?_ ⟨by simp,rfl⟩ ?_ ?_ ?_
 ·rintro a h ⟨_,rfl⟩;rfl
 ·rintro a h hb ⟨h7,rfl⟩;exact ⟨Ae h7 (fun h8=>by rw [hb] at h8;cases h8),rfl⟩
 ·rintro a h hb ha62 ⟨h7,rfl⟩;have han:a<n:=AO (n:=k) (by omega) hb;have hA:=hT.aft hu han;have hl:=hT.l;have h3:∀ {fr:Bool}{roots:List Nat}{b:Nat}{ss:List Nat}{σ:St}{k:AV→St→Prop},callT G A4 [I u,I a,.pfro [.lst (nx.map eW)]] fr roots b ss σ k=k (I (Pg nx u a)) σ:=(Y7 hT hu han).rule;simp only [go_sem,↓reduceIte,↓Aa,JW,J3,h3];refine ⟨fun h0=>⟨h0,by omega,fun he=>?_,fun he=>Ae h7 (fun _ hh=>by rw [he] at hh;cases hh.2)⟩,fun h0=>Ae h7 (fun _ hh=>h0 hh.1)⟩;rw [(Nm hT hv).2 ⟨a,han,by simpa [hasA] using hb,h0,he⟩]
 ·rintro a h hb ⟨h7,rfl⟩;simp only [go_sem,↓reduceIte,↓Aa];have:Afo nx en u (k:Int)=false:=by
   rw [Bool.eq_false_iff];intro hd;obtain ⟨b,h1,h2,h3,h4⟩:=(Nm hT hv).1 hd;have h2':k.testBit b=true:=by simpa [hasA] using h2
   exact h7 b (AO hb h2') h2' ⟨h3,h4⟩
  rw [this]
def Mv (s:Spc)(nx:List (List Int))(en:List Bool)(p:Pr):List Int:=(s.S[p.1.toNat]!.A).filter fun v => !Afo nx en p.2 v
def nxO (s:Spc)(nx:List (List Int))(p:Pr)(a:Nat):Pr:=(nx1 s p.1 a,Pg nx p.2 a)
theorem AeS {m:Nat}{s:Spc}(hs:SpcK m s)(hn:s.acts.length=n){p:Pr}(h1:0≤p.1∧p.1<(s.S.length:Int))(hu:p.2<(nx.length:Int)):Fn G f_meet_Only_4 [ePr p,fz s,paW nx,peW en] (.lst ((Mv s nx en p).map I)):=by
 obtain ⟨p1,u⟩:=p;simp only at h1 hu;obtain ⟨x,rfl⟩:∃x:Nat,p1=x:=⟨p1.toNat,by omega⟩;have hx:x<s.S.length:=by omega
 have hal:=hs.alen hx;have hA:∀i<s.S[x]!.A.length,FnT G B8 (I s.S[x]!.A[i]!::[paW nx,.pfro [I (x:Int),I u],peW en]) (Bo (Afo nx en u s.S[x]!.A[i]!)):=fun i hi=>Adr hT hu (by rw [←hn];exact (hs.st x hx).a i hi);have hse:Mv s nx en ((x:Int),u)=s.S[x]!.A.filter fun v => !Afo nx en u v:=rfl;rw [hse];by_cases h0:s.S[x]!.A = []
 ·refine FnP.mk' Nh rfl rfl ?_;simp only [go_sem,↓reduceIte,↓Aa,Ke,ePr,fz,hx,eSt,h0,List.map_nil,ZL];refine AfE (ds:=[paW nx,.pfro [I (x:Int),I u],peW en]) ⟨_,Jc,rfl⟩ rfl (fun h=>rfl) ?_;simp only [go_sem,↓reduceIte,↓Aa,h0];rfl
 ·have hc:∀ {fr:Bool}{roots:List Nat}{b st:Nat}{σ:St}{k:AV→St→Prop},callT G AR [.lst (s.S[x]!.A.map I)] fr roots b [st] σ k=OC (if fr then σ.h else At σ.h roots) (b+st) (.own 1 (s.S[x]!.A.map I)) (fun h st'=>k (.sl (b+st) st' [] 0 0 (s.S[x]!.A.map I).length) { σ with h }):=(Ad9 _ h0 (by omega)).rule;refine FnP.mk' Nh rfl rfl ?_;simp only [go_sem,↓reduceIte,↓Aa,Ke,ePr,fz,hx,eSt,hc];have hh:([⟨1,0,.own 2 [.agg [I (x:Int),I u]]⟩,⟨1,0,.own 1 (s.S[x]!.A.map I)⟩]:List Ob)=dh [⟨1,0,.own 2 [.agg [I (x:Int),I u]]⟩,Jv] 1 1 0 s.S[x]!.A:=rfl;rw [hh];refine AhH (ds:=[paW nx,.pfro [I (x:Int),I u],peW en]) (q:=Afo nx en u) (by omega) ⟨_,Jc,rfl⟩ (by simp) (fun m=>rfl) (fun h=>rfl) hA (fun m k h1 h2 h3=>?_);have hd:dh [⟨1,0,.own 2 [.agg [I (x:Int),I u]]⟩,⟨0,0,.gone⟩] 1 1 0 m = [⟨1,0,.own 2 [.agg [I (x:Int),I u]]⟩,⟨1,0,.own 1 (m.map I)⟩]:=rfl;simp only [go_sem,↓reduceIte,↓Aa,hd];rw [if_pos h2,←List.map_take,Aex,h3]
theorem Agj {m:Nat}{s:Spc}(hs:SpcK m s)(hn:s.acts.length=n){p:Pr}(h1:0≤p.1∧p.1<(s.S.length:Int))(hu:p.2<(nx.length:Int)){a:Nat}(ha:a<n):Fn G f_meet_Only_5 [ePr p,I a,fz s,paW nx] (ePr (nxO s nx p a)):=by
 obtain ⟨p1,u⟩:=p;simp only at h1 hu;obtain ⟨x,rfl⟩:∃x:Nat,p1=x:=⟨p1.toNat,by omega⟩;have hx:x<s.S.length:=by omega
 have hax:a<s.S[x]!.X.length:=by rw [(hs.st x hx).len,hn];exact ha
 have e1:nx1 s (x:Int) a=s.S[x]!.X[a]!:=by unfold nx1;rw [if_neg (by omega),Int.toNat_natCast]
 have h3:∀ {fr:Bool}{roots:List Nat}{b:Nat}{ss:List Nat}{σ:St}{k:AV→St→Prop},callT G A4 [I u,I a,.pfro [.lst (nx.map eW)]] fr roots b ss σ k=k (I (Pg nx u a)) σ:=(Y7 hT hu ha).rule;refine FnP.mk' TJ rfl rfl ?_;simp only [go_sem,↓reduceIte,↓Aa,MW,ePr,fz,hx,eSt,hax,nxO,e1,h3]
end
end Go.Mw
namespace Go.Mw
set_option maxRecDepth 100000
section
variable {h:List Ob}{f:FuncId}{a:List AV}{cs:List AV}{q:AV→List Ob→Prop}
theorem TD:BM h (.fn f [.pfro a]) q=q (.fn f [.pfro a]) h:=takeCellK_plain rfl
theorem AeB:QU h (.fn f [.pfro a])=True:=eq_true rfl
theorem QO:setCellOf .nilf 0 (.fn f cs) = .fn f cs:=(rfl)
end
attribute [go_sem] TD AeB QO
theorem only1_ok (s:Spc)(w:List Int):FnT G BB [eW w,fz s] (Bo (!wordOk s.acts.length w)):=by
 have hc:∀ {fr:Bool}{roots:List Nat}{b:Nat}{ss:List Nat}{σ:St}{k:AV→St→Prop},callT G Dl [.lst (s.acts.map .str),.lst (w.map I)] fr roots b ss σ k=k (Bo (wordOk s.acts.length w)) σ:=(AeZ s.acts w).rule;refine FnP.mk' Ki rfl rfl ?_;simp only [go_sem,↓reduceIte,↓Aa,MR,eW,fz,hc]
theorem Yr (w:List Int):FnT G BC [eW w] (Bo (decide (w = []))):=by
 refine FnP.mk' Kr rfl rfl ?_;simp only [go_sem,↓reduceIte,↓Aa,Na,eW];cases w with
 | nil=>rfl
 | cons x w=>simp;omega
def gdO (n:Nat)(nx:List (List Int))(en:List Bool)(p:Pr):Prop:=(0≤p.1∧p.1<(n:Int))∧(-1≤p.2∧p.2<(nx.length:Int))∧(0≤p.2→en[p.2.toNat]! = false)
section
variable {m:Nat}{s:Spc}{nx:List (List Int)}{en:List Bool}(hs:SpcK m s) (hT:TW s.acts.length nx en) (h0:0<nx.length) (he:en[0]! = false)
include hs hT
theorem K3 {p:Pr}(hp:gdO s.S.length nx en p){v:Int}:v∈Mv s nx en p↔accP s p.1 v∧∀a,a<s.acts.length→hasA v a=true→¬(0≤Pg nx p.2 a∧en[(Pg nx p.2 a).toNat]! = true):=by
 unfold Mv accP;rw [List.mem_filter];constructor
 ·rintro ⟨h1,h2⟩;refine ⟨⟨hp.1.1,h1⟩,fun a ha hb hc=>?_⟩;have hv:=QR hs hp.1.2 ⟨hp.1.1,h1⟩;have h3:=(Nm hT hv).2 ⟨a,ha,hb,hc.1,hc.2⟩;rw [h3] at h2;cases h2
 ·rintro ⟨h1,h2⟩;refine ⟨h1.2,?_⟩;have hv:=QR hs hp.1.2 h1;cases hd:Afo nx en p.2 v with
  | false=>rfl
  | true =>
    obtain ⟨a,g1,g2,g3,g4⟩:=(Nm hT hv).1 hd;exact absurd ⟨g3,g4⟩ (h2 a g1 g2)
theorem Ajr {p:Pr}(hp:gdO s.S.length nx en p){a:Nat}{v:Int}(hv:v∈Mv s nx en p)(ha:hasA v a=true):gdO s.S.length nx en (nxO s nx p a):=by
 obtain ⟨h1,h2⟩:=(K3 hs hT hp).1 hv;have hvb:=QR hs hp.1.2 h1;have hal:a<s.acts.length:=AO (n:=v.toNat) (by omega) ha;have h3:=Aed hs hp.1.2 hal;have h4:=hT.aft hp.2.1.2 hal;refine ⟨⟨AdS hs hp.1.2 h1 ha,h3.2⟩,h4,fun h=>?_⟩;have:=h2 a hal ha;cases hd:en[(Pg nx p.2 a).toNat]! with
 | false=>exact hd
 | true=>exact absurd ⟨h,hd⟩ this
include h0 he
theorem AhC:CB s.acts (gdO s.S.length nx en) (Mv s nx en) (nxO s nx) f_meet_Only_4 f_meet_Only_5 [fz s,paW nx,peW en] [fz s,paW nx]:=by
 have hs1:=hs.s1;refine ⟨hs.acts,Kx,KB,fun h=>rfl,fun h=>rfl,rfl,rfl,⟨rfl,rfl⟩,⟨rfl,rfl⟩,fun p hp=>AeS hT hs rfl hp.1 hp.2.1.2,fun p a hp ha _=>Agj hT hs rfl hp.1 hp.2.1.2 ha,fun p hp=>⟨fun v hv=>?_,?_,?_⟩,fun p a hp ha ⟨v,hv,hb⟩=>Ajr hs hT hp hv hb,⟨⟨by omega,by omega⟩,⟨by omega,by omega⟩,fun _=>he⟩⟩
 ·exact QR hs hp.1.2 ((K3 hs hT hp).1 hv).1
 ·have:=hs.alen (x:=p.1.toNat) (by have:=hp.1;omega);exact Nat.le_trans (List.length_filter_le _ _) (by omega)
 ·exact (K9 (hs.st p.1.toNat (by have:=hp.1;omega)).ris).filter _
omit h0 he in
theorem Ui:AccOk (gdO s.S.length nx en) s.acts.length (fun p v=>v∈Mv s nx en p) (usedP fun p v=>v∈Mv s nx en p) :=
 ⟨fun p v hp hv=>QR hs hp.1.2 ((K3 hs hT hp).1 hv).1,fun p v a _ hv ha=>⟨v,hv,ha⟩⟩
end
theorem YM (s:Spc)(hz:SpSz s)(hI:SpI s)(ws:List (List Int))(hl:ws.length≤1048576) :
 (¬FY s→Fn G f_meet_Only [eSp s,.lst (ws.map eW)] (.tup [eSp zSpc,I 30])) ∧
 (FY s→(ws.any fun w => !wordOk s.acts.length w)=true→Fn G f_meet_Only [eSp s,.lst (ws.map eW)] (.tup [eSp zSpc,I 1])) ∧
 (FY s→(ws.any fun w => !wordOk s.acts.length w)=false→(ws.any fun w=>decide (w = []))=true→Fn G f_meet_Only [eSp s,.lst (ws.map eW)] (.tup [eSp (B5 s.acts),I 0])):=by
 have c1:∀ {fr:Bool}{roots:List Nat}{b:Nat}{ss:List Nat}{σ:St}{k:AV→St→Prop},callT G Ag [.lst (ws.map eW),.fn BB [.pfro [.lst (s.acts.map .str),.lst (s.S.map eSt)]]] fr roots b ss σ k=k (Bo (ws.any fun w => !wordOk s.acts.length w)) σ :=
  (Jz ws hl BB [fz s] _ ⟨_,Ki,rfl⟩ (fun h=>rfl) (fun i hi=>only1_ok s _)).rule
 have c2:∀ {fr:Bool}{roots:List Nat}{b:Nat}{ss:List Nat}{σ:St}{k:AV→St→Prop},callT G Ag [.lst (ws.map eW),.fn BC []] fr roots b ss σ k=k (Bo (ws.any fun w=>decide (w = []))) σ :=
  (Jz ws hl BC [] _ ⟨_,Kr,rfl⟩ (fun h=>rfl) (fun i hi=>Yr _)).rule
 refine ⟨fun h=>?_,fun h h1=>?_,fun h h1 h2=>?_⟩
 ·refine FnP.mk' HV rfl rfl ?_;simp only [go_sem,↓reduceIte,↓Aa,Fl,eSp,AbD hz hI,h,zSpc]
 ·refine FnP.mk' HV rfl rfl ?_;simp only [go_sem,↓reduceIte,↓Aa,Fl,eSp,AbD hz hI,h,c1,h1,zSpc]
 ·have hn:∀ {roots:List Nat}{b:Nat}{ss:List Nat}{σ:St}{k:AV→St→Prop},callT G BE [.lst (s.acts.map .str)] true roots b ss σ k=k (eSp (B5 s.acts)) σ:=(RZ s.acts (Ax h.acts)).rule;refine FnP.mk' HV rfl rfl ?_;simp only [go_sem,↓reduceIte,↓Aa,Fl,eSp,AbD hz hI,h,c1,h1,c2,h2,hn]
theorem Ahu (s:Spc)(hI:SpI s)(hs:FY s)(ws:List (List Int))(hl:ws.length≤1048576)(hsum:sumW ws≤10000)(hg:(ws.any fun w => !wordOk s.acts.length w)=false)(hne:(ws.any fun w=>decide (w = []))=false) :
 ∃wd nx en,TI s.acts.length ws [] wd nx en ∧
  ((∃C l,PS (gdO s.S.length nx en) s.acts (fun p v=>v∈Mv s nx en p) (nxO s nx) (usedP fun p v=>v∈Mv s nx en p) C l∧l.length≤500∧Fn G f_meet_Only [eSp s,.lst (ws.map eW)] (.tup [eSp (trimA C).1,I 0])) ∨
   (∃l:List Pr,l.Nodup∧(∀p∈l,gdO s.S.length nx en p)∧l.length=501∧Fn G f_meet_Only [eSp s,.lst (ws.map eW)] (.tup [eSp zSpc,I 2]))):=by
 have hz:=hs.sz;have c1:∀ {fr:Bool}{roots:List Nat}{b:Nat}{ss:List Nat}{σ:St}{k:AV→St→Prop},callT G Ag [.lst (ws.map eW),.fn BB [.pfro [.lst (s.acts.map .str),.lst (s.S.map eSt)]]] fr roots b ss σ k=k (Bo (ws.any fun w => !wordOk s.acts.length w)) σ :=
  (Jz ws hl BB [fz s] _ ⟨_,Ki,rfl⟩ (fun h=>rfl) (fun i hi=>only1_ok s _)).rule
 have c2:∀ {fr:Bool}{roots:List Nat}{b:Nat}{ss:List Nat}{σ:St}{k:AV→St→Prop},callT G Ag [.lst (ws.map eW),.fn BC []] fr roots b ss σ k=k (Bo (ws.any fun w=>decide (w = []))) σ :=
  (Jz ws hl BC [] _ ⟨_,Kr,rfl⟩ (fun h=>rfl) (fun i hi=>Yr _)).rule
 have hk8:=Ax hs.acts;have hrg:∀w∈ws,∀x∈w,0≤x∧x<(s.acts.length:Int):=fun w hw x hx=>by
  have h1:=List.any_eq_false.1 hg w hw;have h2:wordOk s.acts.length w=true:=by simpa using h1
  unfold wordOk at h2;rw [Bool.and_eq_true,List.all_eq_true] at h2;simpa using h2.2 x hx
 obtain ⟨wd,nx,en,hT,hW⟩:=AaN s.acts hk8 ws hl hsum hrg;have hw:∀ {roots:List Nat}{b:Nat}{ss:List Nat}{σ:St}{k:AV→St→Prop},callT G BX [.lst (s.acts.map .str),.lst (ws.map eW)] true roots b ss σ k=k (.tup [.lst (nx.map eW),.lst (en.map Bo)]) σ:=hW.rule;have hTW:=hT.tw hk8;have hp:=hT.pos;have h0:0<nx.length:=by rw [hT.l1];exact hp
 have he:en[0]! = false:=by
  cases hd:en[0]! with
  | false=>rfl
  | true =>
    have:=(hT.en1 0 hp).1 hd;rw [hT.zero] at this;have h1:=List.any_eq_false.1 hne _ this;simp at h1
 refine ⟨wd,nx,en,hT,?_⟩;obtain ⟨v,hv,hc⟩:=FnP.ex (P:=fun v=>(∃out l,PS (gdO s.S.length nx en) s.acts (fun p v=>v∈Mv s nx en p) (nxO s nx) (usedP fun p v=>v∈Mv s nx en p) out l∧l.length≤500∧v = .tup [eSp out,Bo true]) ∨
  (∃l:List Pr,l.Nodup∧(∀p∈l,gdO s.S.length nx en p)∧l.length=501∧v = .tup [.agg [.lst [],.lst []],Bo false])) (Zo (AhC hs hTW h0 he))
 rcases hv with ⟨C,l,hP,hl5,rfl⟩|⟨l,h1,h2,h3,rfl⟩
 ·have hC:FY C:=hP.ok hs.acts (Ui hs hTW) (by omega);have hcall:∀ {roots:List Nat}{b:Nat}{ss:List Nat}{σ:St}{k:AV→St→Prop},callT G Ak [.agg [.fn f_meet_Only_4 [.pfro [.lst (s.acts.map .str),.lst (s.S.map eSt)],.pfro [.fn A4 [.pfro [.lst (nx.map eW)]]],.pfro [.lst (en.map Bo)]],.fn f_meet_Only_5 [.pfro [.lst (s.acts.map .str),.lst (s.S.map eSt)],.pfro [.fn A4 [.pfro [.lst (nx.map eW)]]]]],.lst (s.acts.map .str),.agg [I 0,I 0]] true roots b ss σ k=k (.tup [eSp C,Bo true]) σ:=hc.rule;refine .inl ⟨C,l,hP,hl5,FnP.mk' HV rfl rfl ?_⟩;simp only [go_sem,↓reduceIte,↓Aa,Fl,eSp,AbD hz hI,hs,c1,hg,c2,hne,hw,hcall,trimmed_r hC]
 ·have hcall:∀ {roots:List Nat}{b:Nat}{ss:List Nat}{σ:St}{k:AV→St→Prop},callT G Ak [.agg [.fn f_meet_Only_4 [.pfro [.lst (s.acts.map .str),.lst (s.S.map eSt)],.pfro [.fn A4 [.pfro [.lst (nx.map eW)]]],.pfro [.lst (en.map Bo)]],.fn f_meet_Only_5 [.pfro [.lst (s.acts.map .str),.lst (s.S.map eSt)],.pfro [.fn A4 [.pfro [.lst (nx.map eW)]]]]],.lst (s.acts.map .str),.agg [I 0,I 0]] true roots b ss σ k=k (.tup [.agg [.lst [],.lst []],Bo false]) σ:=hc.rule;refine .inr ⟨l,h1,h2,h3,FnP.mk' HV rfl rfl ?_⟩;simp only [go_sem,↓reduceIte,↓Aa,Fl,eSp,AbD hz hI,hs,c1,hg,c2,hne,hw,hcall,zSpc]
end Go.Mw
namespace Go.Mw
set_option maxRecDepth 100000
section
variable {acts:List ByteArray}{ws st:List (List Int)}{outs:List Stt}
theorem WI.x1 (h:WI acts.length ws st.length st outs){i:Nat}(hi:i<st.length){a:Nat}(ha:a<acts.length) : -1≤outs[i]!.X[a]!∧outs[i]!.X[a]! < (st.length:Int):=by
 have h2:=h.two;by_cases h1:i=1
 ·rw [h1,h.o1 (by omega)];simp only;rw [getElem!_pos _ a (by simpa using ha)];simp;omega
 ·obtain ⟨g1,g2,g3⟩:=h.o i hi h1;have g4:=g3 a ha;unfold stepW at g4;split at g4
  ·omega
  ·split at g4
   ·obtain ⟨j,e1,e2,e3,_⟩:=g4;omega
   ·omega
theorem WI.spc (h:WI acts.length ws st.length st outs)(ha:actsOk acts=true)(hl:st.length≤12000):SpcK 12000 ⟨acts,outs⟩:=by
 have h2:=h.two;have hlen:=h.len;refine ⟨ha,by simp only;omega,by simp only;omega,fun i hi=>?_⟩;simp only at hi ⊢;have hi':i<st.length:=by omega
 rw [hlen];by_cases h1:i=1
 ·rw [h1,h.o1 (by omega)];refine ⟨by simp,fun j hj=>?_,fun j hj h0=>?_,fun a ha=>?_,fun j hj a ha hh=>?_⟩
  ·simp only [JR] at hj;simp only;rw [Nz hj];omega
  ·simp only [JR] at hj;simp only;rw [Nz hj,Nz (by omega)];omega
  ·simp only;rw [getElem!_pos _ a (by simpa using ha)];simp;omega
  ·simp only;rw [getElem!_pos _ a (by simpa using ha)];simp
 ·obtain ⟨g1,g2,g3⟩:=h.o i hi' h1;refine ⟨g2,fun j hj=>?_,fun j hj h0=>?_,fun a ha=>h.x1 hi' ha,fun j hj a ha hh=>?_⟩
  ·rw [g1] at hj ⊢;exact (WO.1 (AJ hj)).1
  ·rw [g1] at hj ⊢;exact Wx AjS hj h0
  ·rw [g1] at hj hh;have h3:=(WO.1 (AJ hj)).2 a hh;have g4:=g3 a ha;unfold stepW at g4;rw [if_neg (by rw [h3];simp)] at g4;split at g4
   ·obtain ⟨j,e1,e2,e3,_⟩:=g4;omega
   ·omega
end
theorem WQ (s:Spc)(hk:s.acts.length≤8)(ws:List (List Int))(hl:ws.length≤1048576)(h:(ws.any fun w=>decide (w = []))=true):Fn G Ec [eSp s,.lst (ws.map eW)] (eSp (B5 s.acts)):=by
 have hn:∀ {roots:List Nat}{b:Nat}{ss:List Nat}{σ:St}{k:AV→St→Prop},callT G BV [.lst (s.acts.map .str)] true roots b ss σ k=k (eSp (B5 s.acts)) σ:=(PR s.acts hk).rule;refine FnP.mk' Sc rfl rfl ?_;simp only [go_sem,↓reduceIte,↓Aa,NU,eSp];refine Ad (fun (i:Nat) σ=>i≤ws.length∧(∀j<i,ws[j]!≠[])∧σ=⟨aT .undef 26 [(1,.lst (ws.map eW)),(2,.ptr 0 1 [] 0 0 0),(4,.ptr 1 1 [] 0 0 0),(7,.lst (ws.map eW)),(8,I ws.length),(9,I i)],
  [⟨1,0,.own 2 [.agg [.lst (s.acts.map .str),.lst (s.S.map eSt)]]⟩,⟨1,0,.own 2 [.agg [.nils,.nils]]⟩],[]⟩) (fun i=>ws.length-i) ?_ 0 ?_
 ·rintro i σ ⟨hi,hall,rfl⟩ N Q hQ hN;by_cases hlt:i<ws.length
  ·by_cases hw:ws[i]! = []
   ·simp only [go_sem,↓reduceIte,↓Aa,eW,Ab hlt (by omega),Int.ofNat_lt,hlt,hw,List.map_nil,hn,eSp];subst hQ;simp only [go_sem,↓reduceIte,↓Aa]
   ·have hl0:(((ws[i]!).length:Int)==0)=false:=by
     rw [beq_eq_false_iff_ne];intro e;exact hw (List.eq_nil_of_length_eq_zero (by omega))
    simp only [go_sem,↓reduceIte,↓Aa,eW,Ab hlt (by omega),Int.ofNat_lt,hlt,hl0];exact hN (i+1) _ (by omega) ⟨by omega,Ae hall hw,by simp only [go_sem,↓reduceIte,↓Aa]⟩
  ·have hil:i=ws.length:=by omega
   subst hil;obtain ⟨w,hw,he⟩:=List.any_eq_true.1 h;obtain ⟨j,hj,e⟩:=getAt hw;exact absurd (by rw [e];simpa using he) (hall j hj)
 ·exact ⟨by omega,by simp,by simp only [go_sem,↓reduceIte,↓Aa]⟩
theorem AaZ {m:Nat}{s:Spc}(hs:SpcK m s)(ws:List (List Int))(hl:ws.length≤1048576)(hsum:sumW ws≤10000)(hne:(ws.any fun w=>decide (w = []))=false)(hsz:s.S.length*(sumW ws+2)+s.S.length+(sumW ws+2)≤12000) :
 ∃st outs W k,WI s.acts.length ws st.length st outs∧SpcK 12000 ⟨s.acts,outs⟩∧PS (gdM s.S.length st.length) s.acts (fun p v=>v∈Mq s ⟨s.acts,outs⟩ p) (nxP s ⟨s.acts,outs⟩) (goM s ⟨s.acts,outs⟩) W k∧Fn G Ec [eSp s,.lst (ws.map eW)] (eSp W):=by
 obtain ⟨st,outs,hI,hF⟩:=AgL s.acts (Ax hs.acts) ws hl hsum;have hfew:=hI.few;have hT:=hI.spc hs.acts (by omega);have hlen:(⟨s.acts,outs⟩:Spc).S.length=st.length:=hI.len;have hmul:s.S.length*st.length≤s.S.length*(sumW ws+2):=Nat.mul_le_mul_left _ hfew;obtain ⟨W,k,hP,hM⟩:=Zw hs hT rfl (by rw [hlen];omega);rw [hlen] at hP;refine ⟨st,outs,W,k,hI,hT,hP,?_⟩;have rW:∀ {roots:List Nat}{b:Nat}{ss:List Nat}{σ:St}{k:AV→St→Prop},callT G DR [.lst (s.acts.map .str),.lst (ws.map eW)] true roots b ss σ k=k (eSp ⟨s.acts,outs⟩) σ:=hF.rule;have rM:∀ {roots:List Nat}{b:Nat}{ss:List Nat}{σ:St}{k:AV→St→Prop},callT G f_r07_Meet [.agg [.lst (s.acts.map .str),.lst (s.S.map eSt)],.agg [.lst (s.acts.map .str),.lst (outs.map eSt)]] true roots b ss σ k=k (eSp W) σ:=hM.rule;refine FnP.mk' Sc rfl rfl ?_;simp only [go_sem,↓reduceIte,↓Aa,NU,eSp];refine Ad (fun (i:Nat) σ=>i≤ws.length∧σ=⟨aT .undef 26 [(1,.lst (ws.map eW)),(2,.ptr 0 1 [] 0 0 0),(4,.ptr 1 1 [] 0 0 0),(7,.lst (ws.map eW)),(8,I ws.length),(9,I i)],
  [⟨1,0,.own 2 [.agg [.lst (s.acts.map .str),.lst (s.S.map eSt)]]⟩,⟨1,0,.own 2 [.agg [.nils,.nils]]⟩],[]⟩) (fun i=>ws.length-i) ?_ 0 ?_
 ·rintro i σ ⟨hi,rfl⟩ N Q hQ hN;by_cases hlt:i<ws.length
  ·have hw:ws[i]!≠[]:=fun e=>by
    have:=List.any_eq_false.1 hne _ (AJ hlt);simp [e] at this
   have hl0:(((ws[i]!).length:Int)==0)=false:=by
    rw [beq_eq_false_iff_ne];intro e;exact hw (List.eq_nil_of_length_eq_zero (by omega))
   simp only [go_sem,↓reduceIte,↓Aa,eW,Ab hlt (by omega),Int.ofNat_lt,hlt,hl0];exact hN (i+1) _ (by omega) ⟨by omega,by simp only [go_sem,↓reduceIte,↓Aa]⟩
  ·have hil:i=ws.length:=by omega
   subst hil hQ;simp only [go_sem,↓reduceIte,↓Aa,Int.ofNat_lt,hlt,rW,eSp,rM,AT LW]
 ·exact ⟨by omega,by simp only [go_sem,↓reduceIte,↓Aa]⟩
end Go.Mw
namespace Go.Mw
set_option maxRecDepth 100000
section
variable {n:Nat}{ws wd nx:List (List Int)}{en:List Bool}(hT:TI n ws [] wd nx en)
include hT
theorem TI.node {u a:Nat}(hu:u<wd.length)(ha:a<n):0≤nx[u]![a]!↔begB ws (wd[u]!++[(a:Int)]) false=true:=by
 rw [Ll];have hm:=hT.mem (wd[u]!++[(a:Int)]);constructor
 ·intro h;obtain ⟨g1,g2⟩:=hT.e1 u hu a ha h;rcases hm.1 ⟨_,g1,g2⟩ with h1|h1
  ·exact h1
  ·have:=h1.length_le;simp at this
 ·intro h;obtain ⟨y,hy,e⟩:=hm.2 (.inl h);apply Classical.byContradiction;intro hneg;exact (hT.e2 u hu a ha (by omega)).2 y hy e
theorem TI.ends {u a:Nat}(hu:u<wd.length)(ha:a<n):(0≤nx[u]![a]!∧en[nx[u]![a]!.toNat]! = true)↔begB ws (wd[u]!++[(a:Int)]) true=true:=by
 rw [Aea];constructor
 ·rintro ⟨h1,h2⟩;obtain ⟨g1,g2⟩:=hT.e1 u hu a ha h1;rw [←g2];exact (hT.en1 _ g1).1 h2
 ·intro h;have h1:=(hT.node hu ha).2 (Ll.2 ⟨_,h,List.prefix_refl _⟩);obtain ⟨g1,g2⟩:=hT.e1 u hu a ha h1;exact ⟨h1,(hT.en1 _ g1).2 (by rw [g2];exact h)⟩
end
def Akw (wd st:List (List Int))(u i:Int):Prop:=(u=-1∧i=1)∨(0≤u∧i≠1∧wd[u.toNat]! = st[i.toNat]!)
section
variable {m:Nat}{s:Spc}{ws wd nx st:List (List Int)}{en:List Bool}{outs:List Stt}(hs:SpcK m s) (hT:TI s.acts.length ws [] wd nx en) (hI:WI s.acts.length ws st.length st outs) (hO:SpcK 12000 ⟨s.acts,outs⟩)
include hs hT hI hO
theorem AiB (he0:en[0]! = false){C W:Spc}{l k:List Pr}(hC:PS (gdO s.S.length nx en) s.acts (fun p v=>v∈Mv s nx en p) (nxO s nx) (usedP fun p v=>v∈Mv s nx en p) C l)
 (hW:PS (gdM s.S.length st.length) s.acts (fun p v=>v∈Mq s ⟨s.acts,outs⟩ p) (nxP s ⟨s.acts,outs⟩) (goM s ⟨s.acts,outs⟩) W k):∃R,Bi C W R:=by
 have hTW:=hT.tw (Ax hs.acts);have hl1:=hT.l1;have hlen:(⟨s.acts,outs⟩:Spc).S.length=st.length:=hI.len;have h0:0<nx.length:=by rw [hl1];exact hT.pos
 have h2:=hI.two;have hMok:AccOk (gdM s.S.length st.length) s.acts.length (fun p v=>v∈Mq s ⟨s.acts,outs⟩ p) (goM s ⟨s.acts,outs⟩):=by
  have:=Ys hs hO;rw [hlen] at this;exact this
 refine ⟨_,hC.bi3 hW (Ui hs hTW) hMok (fun p q=>p.1=q.1∧Akw wd st p.2 q.2) ⟨rfl,.inr ⟨Int.le_refl _,by decide,by simp only [Int.toNat_zero];rw [hT.zero,hI.z]⟩⟩ (fun p q v hp hq hQ=>?_) (fun p q v a hp hq hQ hv hv2 ha hal=>?_)⟩
 ·obtain ⟨h1,h3⟩:=hQ;rw [K3 hs hTW hp,QJ (by rw [hlen];exact hq)];unfold accM;rw [h1];refine and_congr_right fun hacc=>?_;have hvb:=QR hs hq.2.1 hacc;rcases h3 with ⟨hu,hi⟩|⟨hu,hi,hw⟩
  ·rw [hu,hi];refine ⟨fun _=>⟨by decide,?_⟩,fun _ a ha hb hc=>?_⟩
   ·show v∈outs[1]!.A;rw [hI.o1 (by omega)];exact Adi.2 hvb
   ·unfold Pg at hc;rw [if_pos (by decide)] at hc;omega
  ·obtain ⟨x,hx⟩:∃x:Nat,p.2=x:=⟨p.2.toNat,by omega⟩;obtain ⟨i,hxi⟩:∃i:Nat,q.2=i:=⟨q.2.toNat,by have:=hq.2.2.1;omega⟩;rw [hx,hxi] at hw;simp only [Int.toNat_natCast] at hw;have hxl:x<wd.length:=by have:=hp.2.1.2;omega
   have hil:i<st.length:=by have:=hq.2.2.2;omega
   have ho:=hI.o i hil (by omega);have haft:∀a:Nat,Pg nx p.2 a=nx[x]![a]!:=fun a=>by
    unfold Pg;rw [hx,if_neg (by omega),Int.toNat_natCast]
   have hA:accP (⟨s.acts,outs⟩:Spc) q.2 v↔v∈acW s.acts.length ws st[i]!:=by
    unfold accP;rw [hxi,Int.toNat_natCast];show 0≤(i:Int)∧v∈outs[i]!.A↔_;rw [ho.1];exact ⟨fun h=>h.2,fun h=>⟨by omega,h⟩⟩
   rw [hA,WO,←hw];constructor
   ·intro h;refine ⟨hvb,fun a ha=>?_⟩;have hal:a<s.acts.length:=AO (n:=v.toNat) (by omega) ha;have:=h a hal ha;rw [haft,hT.ends hxl hal] at this;simpa using this
   ·rintro ⟨_,h⟩ a ha hb hc;rw [haft,hT.ends hxl ha,h a hb] at hc;cases hc
 ·obtain ⟨h1,h3⟩:=hQ;refine ⟨by simp only [nxO,nxP,h1],?_⟩;simp only [nxO,nxP];have hq2:=hq.2.2.1;rcases h3 with ⟨hu,hi⟩|⟨hu,hi,hw⟩
  ·refine .inl ⟨by unfold Pg;rw [hu,if_pos (by decide)],?_⟩;unfold nx1;rw [hi,if_neg (by decide)];show outs[1]!.X[a]! = 1;rw [hI.o1 (by omega)];simp only;rw [getElem!_pos _ a (by simpa using hal)];simp
  ·obtain ⟨x,hx⟩:∃x:Nat,p.2=x:=⟨p.2.toNat,by omega⟩;obtain ⟨i,hxi⟩:∃i:Nat,q.2=i:=⟨q.2.toNat,by omega⟩;rw [hx,hxi] at hw;simp only [Int.toNat_natCast] at hw;have hxl:x<wd.length:=by have:=hp.2.1.2;omega
   have hil:i<st.length:=by have:=hq.2.2.2;omega
   have haft:Pg nx p.2 a=nx[x]![a]!:=by unfold Pg;rw [hx,if_neg (by omega),Int.toNat_natCast]
   have hno:=((K3 hs hTW hp).1 hv).2 a hal ha;rw [haft,hT.ends hxl hal] at hno;have hn1:nx1 (⟨s.acts,outs⟩:Spc) q.2 a=outs[i]!.X[a]!:=by unfold nx1;rw [hxi,if_neg (by omega),Int.toNat_natCast]
   rw [haft,hn1];have hst:=(hI.o i hil (by omega)).2.2 a hal;unfold stepW at hst;rw [←hw,if_neg hno] at hst;have hnode:=hT.node hxl hal;split at hst
   ·rename_i hb;obtain ⟨j,e1,e2,e3,e4⟩:=hst;have h5:=hnode.2 hb;refine .inr ⟨h5,by omega,?_⟩;rw [e1,Int.toNat_natCast,e4];exact (hT.e1 x hxl a hal h5).2
   ·rename_i hb;refine .inl ⟨(hT.e2 x hxl a hal ?_).1,hst⟩;have:=mt hnode.1 hb;omega
omit hs hI hO in
theorem Aht (hne:∀w∈ws,w≠[]){l:List Pr}(hn:l.Nodup)(hg:∀p∈l,gdO s.S.length nx en p):l.length≤s.S.length*(sumW ws+1)∨l.length≤2*s.S.length:=by
 have hl1:=hT.l1;have hcnt:=hT.cnt;simp only [List.length_nil] at hcnt;have key:∀(N e:Nat),(∀p∈l,p.2 ≠ -1→p.2.toNat<N∧p.2.toNat≠e)→e<N→l.length≤s.S.length*N:=fun N e h he=>by
  have h3:=EC (n:=s.S.length*N) (l:=l.map fun p=>p.1.toNat*N+if p.2=-1 then e else p.2.toNat) ?_ ?_
  ·simpa using h3
  ·refine (List.pairwise_map).2 ?_;refine List.Pairwise.imp_of_mem ?_ hn;intro a b ha hb hab hh;have hga:=hg a ha;have hgb:=hg b hb;have hca:(if a.2=-1 then e else a.2.toNat)<N:=by
    split
    ·exact he
    ·rename_i h1;exact (h a ha h1).1
   have hcb:(if b.2=-1 then e else b.2.toNat)<N:=by
    split
    ·exact he
    ·rename_i h1;exact (h b hb h1).1
   have e2:(if a.2=-1 then e else a.2.toNat)=(if b.2=-1 then e else b.2.toNat):=by
    have:=congrArg (· % N) hh;simp only [Nat.mul_add_mod_self_right] at this;rwa [Nat.mod_eq_of_lt hca,Nat.mod_eq_of_lt hcb] at this
   have e1:a.1.toNat=b.1.toNat:=by
    have:a.1.toNat*N=b.1.toNat*N:=by omega
    exact Nat.eq_of_mul_eq_mul_right (by omega) this
   have a1:=hga.2.1.1;have b1:=hgb.2.1.1;have e3:a.2=b.2:=by
    split at e2
    ·split at e2
     ·omega
     ·rename_i h1;exact absurd e2.symm (h b hb h1).2
    ·rename_i h1;split at e2
     ·exact absurd e2 (h a ha h1).2
     ·omega
   exact hab (Prod.ext (by have:=hga.1.1;have:=hgb.1.1;omega) e3)
  ·intro x hx;obtain ⟨p,hp,rfl⟩:=List.mem_map.1 hx;have hgp:=hg p hp;have hc:(if p.2=-1 then e else p.2.toNat)<N:=by
    split
    ·exact he
    ·rename_i h1;exact (h p hp h1).1
   have h5:(p.1.toNat+1)*N≤s.S.length*N:=Nat.mul_le_mul_right _ (by have:=hgp.1;omega);rw [Nat.add_mul] at h5;omega
 cases hws:ws with
 | nil =>
   right;have hN:nx.length≤1:=by rw [hl1];rw [hws] at hcnt;simpa [sumW] using hcnt
   have:=key 2 1 (fun p hp h1=>by have:=(hg p hp).2.1;omega) (by omega);omega
 | cons w ws' =>
   left;have hwm:w∈ws:=by rw [hws];simp
   obtain ⟨e,he,hwe⟩:=(hT.mem w).2 (.inl ⟨w,hwm,List.prefix_refl _⟩);have hen:=(hT.en1 e he).2 (by rw [hwe];exact hwm);have:=key nx.length e (fun p hp h1=>by
    have h6:=(hg p hp).2;refine ⟨by omega,fun h7=>?_⟩;have:=h6.2 (by omega);rw [h7,hen] at this;cases this) (by omega)
   have h8:s.S.length*nx.length≤s.S.length*(sumW ws+1):=Nat.mul_le_mul_left _ (by omega);rw [hws] at h8;omega
end
end Go.Mw
namespace Go.Mw
set_option maxRecDepth 100000
theorem only_told (s:Spc)(hI:SpI s)(hs:FY s)(hn:s.S.length≤30)(ws:List (List Int))(hl:ws.length≤1048576)(hg:(ws.any fun w => !wordOk s.acts.length w)=false)(hsum:sumW ws≤400)(hmul:s.S.length*(sumW ws+1)≤1000) :
 ∃X e W,Fn G f_meet_Only [eSp s,.lst (ws.map eW)] (.tup [eSp X,I e])∧Fn G Ec [eSp s,.lst (ws.map eW)] (eSp W) ∧
  FnT G Cg [eSp X,I e,I 0,eSp W,Bo (decide ((500:Int)<((s.S.length*(sumW ws+1):Nat):Int)))] (Bo true):=by
 rcases Bool.eq_false_or_eq_true (ws.any fun w=>decide (w = [])) with hE|hE
 ·refine ⟨B5 s.acts,0,B5 s.acts,(YM s hs.sz hI ws hl).2.2 hs hg hE,WQ s (Ax hs.acts) ws hl hE,?_⟩;have hno:=(Y0 (m:=500) (by omega) hs.acts).ok;have:=Aeg (Bi.refl hno) hno hno;rw [Ahw] at this;exact UD _ _ this _
 ·obtain ⟨wd,nx,en,hT,hP⟩:=Ahu s hI hs ws hl (by omega) hg hE;have hm2:s.S.length*(sumW ws+2)=s.S.length*(sumW ws+1)+s.S.length:=by rw [Nat.mul_add s.S.length (sumW ws) 2,Nat.mul_add s.S.length (sumW ws) 1];omega
  obtain ⟨st,outs,W,k,hWI,hO,hW,hF⟩:=AaZ hs ws hl (by omega) hE (by omega);have hne:∀w∈ws,w≠[]:=fun w hw e=>by
   have:=List.any_eq_false.1 hE w hw;simp [e] at this
  rcases hP with ⟨C,l,hC,hl5,hX⟩|⟨l,h1,h2,h3,hX⟩
  ·refine ⟨_,_,W,hX,hF,?_⟩;have hTW:=hT.tw (Ax hs.acts);have h0:0<nx.length:=by rw [hT.l1];exact hT.pos
   have he0:en[0]! = false:=by
    cases hd:en[0]! with
    | false=>rfl
    | true =>
      have:=(hT.en1 0 hT.pos).1 hd;rw [hT.zero] at this;exact absurd rfl (hne _ this)
   obtain ⟨R,hR⟩:=AiB hs hT hWI hO he0 hC hW;have hCok:FY C:=hC.ok hs.acts (Ui hs hTW) (by omega);have hlen:(⟨s.acts,outs⟩:Spc).S.length=st.length:=hWI.len;have hfew:=hWI.few;have hkl:=AhF hW.nd hW.good;have hm3:s.S.length*st.length≤s.S.length*(sumW ws+2):=Nat.mul_le_mul_left _ hfew;have hMok:AccOk (gdM s.S.length st.length) s.acts.length (fun p v=>v∈Mq s ⟨s.acts,outs⟩ p) (goM s ⟨s.acts,outs⟩):=by
    have:=Ys hs hO;rw [hlen] at this;exact this
   have hWok:SpcK 12000 W:=hW.ok hs.acts hMok (by omega);exact UD _ W (Aeg hR hCok hWok) _
  ·refine ⟨_,_,W,hX,hF,?_⟩;have:=Aht hT hne h1 h2;rw [decide_eq_true (by omega)];exact ZG W
theorem Wi (s:Spc)(hs:SpBig s)(ws:List (List Int))(hl:ws.length≤140737488355328)(hw:∀i<ws.length,ws[i]!.length≤17592186044416):FnT G f_w07_MeetOnly [eSp s,.lst (ws.map eW)] (Bo true):=by
 obtain ⟨v,hv,hP⟩:=light07_big s hs;have l1:∀ {fr:Bool}{roots:List Nat}{b:Nat}{ss:List Nat}{σ:St}{k:AV→St→Prop},callT G Fa [.agg [.lst (s.acts.map .str),.lst (s.S.map eSt)]] fr roots b ss σ k=k (Bo v) σ:=hv.rule;refine FnP.mk' QV rfl rfl ?_;cases v with
 | false=>simp only [go_sem,↓reduceIte,↓Aa,FN,eSp,l1,DJ]
 | true =>
   obtain ⟨hsz,hsn⟩:=hP rfl;by_cases h60:(60:Int)<(ws.length:Int)
   ·simp only [go_sem,↓reduceIte,↓Aa,FN,eSp,l1,DJ,h60]
   ·have hl60:ws.length≤60:=by omega
    have hsucc:∀i<ws.length,ws.take (i+1)=ws.take i++[ws[i]!]:=fun i hi=>by rw [List.take_succ_eq_append_getElem hi,←getElem!_pos ws i hi]
    have hss:∀i<ws.length,sumW (ws.take (i+1))=sumW (ws.take i)+ws[i]!.length:=fun i hi=>by
     rw [hsucc i hi];unfold sumW;simp
    have hsa:∀i<ws.length,(ws.take (i+1)).all (wordOk s.acts.length)=((ws.take i).all (wordOk s.acts.length)&&wordOk s.acts.length ws[i]!):=fun i hi=>by
     rw [hsucc i hi];simp
    simp only [go_sem,↓reduceIte,↓Aa,FN,eSp,l1,h60];refine Ad (fun (i:Nat) σ=>i≤ws.length∧sumW (ws.take i)≤i*17592186044416∧σ=⟨aT .undef 87 [(1,.lst (ws.map eW)),(2,.ptr 0 1 [] 0 0 0),(5,I ((sumW (ws.take i)+1:Nat):Int)),(6,Bo ((ws.take i).all (wordOk s.acts.length))),(22,.lst (ws.map eW)),(23,I ws.length),(24,I i)],
     [⟨1,0,.own 2 [.agg [.lst (s.acts.map .str),.lst (s.S.map eSt)]]⟩,⟨0,0,.gone⟩,⟨0,0,.gone⟩],[]⟩) (fun i=>ws.length-i) ?_ 0 ?_
    ·rintro i σ ⟨hi,hsi,rfl⟩ N Q hQ hN;by_cases hlt:i<ws.length
     ·have hwi:=hw i hlt;have hW:∀ {fr:Bool}{roots:List Nat}{b:Nat}{ss:List Nat}{σ:St}{k:AV→St→Prop},callT G Ht [I s.acts.length,.lst (ws[i]!.map I)] fr roots b ss σ k=k (Bo (wordOk s.acts.length ws[i]!)) σ:=(Afv s.acts.length ws[i]!).rule;have w1:IntKind.i64.wrap (((sumW (ws.take i)+1:Nat):Int)+(ws[i]!.length:Int))=((sumW (ws.take (i+1))+1:Nat):Int):=by
       rw [L7]<;>(try rw [hss i hlt])<;>omega
      have hb2:sumW (ws.take (i+1))≤(i+1)*17592186044416:=by rw [hss i hlt];omega
      have ha2:=hsa i hlt;rcases Bool.eq_false_or_eq_true ((ws.take i).all (wordOk s.acts.length)) with hr|hr
      ·rw [hr,Bool.true_and] at ha2;simp only [go_sem,↓reduceIte,↓Aa,eW,Ab hlt (by omega),Int.ofNat_lt,hlt,w1,hr,hW];exact hN (i+1) _ (by omega) ⟨by omega,hb2,by simp only [go_sem,↓reduceIte,↓Aa,ha2]⟩
      ·rw [hr,Bool.false_and] at ha2;simp only [go_sem,↓reduceIte,↓Aa,eW,Ab hlt (by omega),Int.ofNat_lt,hlt,w1,hr];exact hN (i+1) _ (by omega) ⟨by omega,hb2,by simp only [go_sem,↓reduceIte,↓Aa,ha2]⟩
     ·have hil:i=ws.length:=by omega
      subst hil hQ;rw [List.take_length] at hsi ⊢;have hI:=hs.fi;have hIs:∀ {fr:Bool}{roots:List Nat}{b:Nat}{ss:List Nat}{σ:St}{k:AV→St→Prop},callT G Jw [.agg [.lst (s.acts.map .str),.lst (s.S.map eSt)]] fr roots b ss σ k=k (Bo _) σ:=AgN hsz;have hL:∀ {roots:List Nat}{b:Nat}{ss:List Nat}{σ:St}{k:AV→St→Prop},callT G Fu [.lst (ws.map eW)] true roots b ss σ k=k (.lst (ws.map eW)) σ:=(AgC ws (by omega) hw).rule;obtain ⟨o1,o2,o3⟩:=YM s hsz hI ws (by omega);have hany:(ws.any fun w => !wordOk s.acts.length w) = !(ws.all (wordOk s.acts.length)):=by rw [List.all_eq_not_any_not,Bool.not_not]
      have hmb:s.S.length*(sumW ws+1)≤30*(60*17592186044416+1):=Nat.mul_le_mul hsn (by have:=Nat.mul_le_mul_right 17592186044416 hl60;omega);have wm:IntKind.i64.wrap ((s.S.length:Int)*((sumW ws+1:Nat):Int))=((s.S.length*(sumW ws+1):Nat):Int):=by rw [←Int.natCast_mul,L7]<;>omega
      by_cases hsp:FY s
      ·rcases Bool.eq_false_or_eq_true (ws.all (wordOk s.acts.length)) with hr|hr
       ·by_cases h401:(401:Int)<((sumW ws+1:Nat):Int)
        ·simp only [go_sem,↓reduceIte,↓Aa,Int.ofNat_lt,hlt,hr,h401,DJ]
        ·by_cases h1000:(1000:Int)<((s.S.length*(sumW ws+1):Nat):Int)
         ·simp only [go_sem,↓reduceIte,↓Aa,Int.ofNat_lt,hlt,hr,h401,wm,h1000,DJ]
         ·obtain ⟨X,e,W,hX,hF,hT⟩:=only_told s hI hsp hsn ws (by omega) (by rw [hany,hr];rfl) (by omega) (by omega);have p1:∀ {roots:List Nat}{b:Nat}{ss:List Nat}{σ:St}{k:AV→St→Prop},callT G f_meet_Only [.agg [.lst (s.acts.map .str),.lst (s.S.map eSt)],.lst (ws.map eW)] true roots b ss σ k=k (.tup [eSp X,I e]) σ:=hX.rule;have r1:∀ {roots:List Nat}{b:Nat}{ss:List Nat}{σ:St}{k:AV→St→Prop},callT G Ec [.agg [.lst (s.acts.map .str),.lst (s.S.map eSt)],.lst (ws.map eW)] true roots b ss σ k=k (eSp W) σ:=hF.rule;have t1:∀ {fr:Bool}{roots:List Nat}{b:Nat}{ss:List Nat}{σ:St}{k:AV→St→Prop},callT G Cg [.agg [.lst (X.acts.map .str),.lst (X.S.map eSt)],I e,I 0,.agg [.lst (W.acts.map .str),.lst (W.S.map eSt)],Bo (decide ((500:Int)<((s.S.length*(sumW ws+1):Nat):Int)))] fr roots b ss σ k=k (Bo true) σ:=hT.rule;simp only [go_sem,↓reduceIte,↓Aa,Int.ofNat_lt,hlt,hr,h401,wm,h1000,hIs,hsp,r1,eSp,spcCopy_r hsz,hL,p1,t1,DJ,AT EJ,AT DC,AT DD]
       ·have p1:∀ {roots:List Nat}{b:Nat}{ss:List Nat}{σ:St}{k:AV→St→Prop},callT G f_meet_Only [.agg [.lst (s.acts.map .str),.lst (s.S.map eSt)],.lst (ws.map eW)] true roots b ss σ k=k (.tup [eSp zSpc,I 1]) σ:=(o2 hsp (by rw [hany,hr];rfl)).rule;have t1:∀ {B:Bool}{fr:Bool}{roots:List Nat}{b:Nat}{ss:List Nat}{σ:St}{k:AV→St→Prop},callT G Cg [.agg [.lst [],.lst []],I 1,I 1,.agg [.lst [],.lst []],Bo B] fr roots b ss σ k=k (Bo true) σ:=(YG zSpc 1 (by decide) _).rule;simp only [go_sem,↓reduceIte,↓Aa,Int.ofNat_lt,hlt,hr,wm,hIs,hsp,eSp,zSpc,List.map_nil,spcCopy_r hsz,hL,p1,t1,DJ,AT EJ,AT DC,AT DD]
      ·have p1:∀ {roots:List Nat}{b:Nat}{ss:List Nat}{σ:St}{k:AV→St→Prop},callT G f_meet_Only [.agg [.lst (s.acts.map .str),.lst (s.S.map eSt)],.lst (ws.map eW)] true roots b ss σ k=k (.tup [eSp zSpc,I 30]) σ:=(o1 hsp).rule;have t1:∀ {B:Bool}{fr:Bool}{roots:List Nat}{b:Nat}{ss:List Nat}{σ:St}{k:AV→St→Prop},callT G Cg [.agg [.lst [],.lst []],I 30,I 30,.agg [.lst [],.lst []],Bo B] fr roots b ss σ k=k (Bo true) σ:=(YG zSpc 30 (by decide) _).rule;rcases Bool.eq_false_or_eq_true (ws.all (wordOk s.acts.length)) with hr|hr
       ·by_cases h401:(401:Int)<((sumW ws+1:Nat):Int)
        ·simp only [go_sem,↓reduceIte,↓Aa,Int.ofNat_lt,hlt,hr,h401,DJ]
        ·by_cases h1000:(1000:Int)<((s.S.length*(sumW ws+1):Nat):Int)
         ·simp only [go_sem,↓reduceIte,↓Aa,Int.ofNat_lt,hlt,hr,h401,wm,h1000,DJ]
         ·simp only [go_sem,↓reduceIte,↓Aa,Int.ofNat_lt,hlt,hr,h401,h1000,wm,hIs,hsp,eSp,zSpc,List.map_nil,spcCopy_r hsz,hL,p1,t1,DJ,AT EJ,AT DC,AT DD]
       ·simp only [go_sem,↓reduceIte,↓Aa,Int.ofNat_lt,hlt,hr,wm,hIs,hsp,eSp,zSpc,List.map_nil,spcCopy_r hsz,hL,p1,t1,DJ,AT EJ,AT DC,AT DD]
    ·exact ⟨by omega,by simp [sumW],by simp only [go_sem,↓reduceIte,↓Aa];rfl⟩
end Go.Mw
