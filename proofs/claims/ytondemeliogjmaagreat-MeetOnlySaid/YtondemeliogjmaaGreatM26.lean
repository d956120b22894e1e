/- Words: lists of actions; copies of them. -/
import Derived.Test.YtondemeliogjmaaGreatM25
set_option linter.unusedVariables false
set_option linter.unusedSimpArgs false
namespace Go.Mw
set_option maxRecDepth 100000
def eW (w:List Int):AV:=.lst (w.map I)
def wordOk (n:Nat)(w:List Int):Bool:=decide (w.length≤10000)&&w.all fun x=>decide (0≤x∧x<(n:Int))
theorem K0 {l:List Int}:(l.map I).map frz=l.map I:=by rw [List.map_map];rfl
theorem QF (l:List Int)(hl:l.length≤1048576)(f:FuncId)(cs:List AV)(q:Int→Bool)(hp:PureF G f)(ht:∀h,treeBL 0 h cs=cs)(hok:∀i<l.length,FnT G f (I l[i]!::cs) (Bo (q l[i]!))) :
 ∃v:Int,FnT G Ah [.lst (l.map I),.fn f cs] (I v)∧((∃k:Nat,k<l.length∧v=k∧q l[k]! = true∧∀j<k,q l[j]! = false)∨(v=-1∧∀j<l.length,q l[j]! = false)):=by
 suffices hh:FnP G Ah [.lst (l.map I),.fn f cs] (fun rs h=>∃v:Int,packV (treeBL 0 h rs)=I v∧((∃k:Nat,k<l.length∧v=k∧q l[k]! = true∧∀j<k,q l[j]! = false)∨(v=-1∧∀j<l.length,q l[j]! = false))∧rs.all AV.flats=true) by
  obtain ⟨F,n,rs,σ1,e1,e2,e3,e4,e5,e6,d,h3,h4,h5⟩:=hh;exact ⟨d,⟨F,n,rs,σ1,e1,e2,e3,e4,e5,e6,h3,h5⟩,h4⟩
 refine FnP.mk' JJ rfl rfl ?_;simp only [go_sem,↓reduceIte,↓Aa,Dy];refine Ad (fun (i:Nat) σ=>i≤l.length∧(∀j<i,q l[j]! = false)∧σ=⟨aT .undef 19 [(0,.lst (l.map I)),(1,.fn f cs),(7,I l.length),(8,I i)],[],[]⟩) (fun i=>l.length-i) ?_ 0 ?_
 ·rintro i σ ⟨hi,hall,rfl⟩ N Q hQ hN;by_cases hlt:i<l.length
  ·have hcall:∀ {fr:Bool}{roots:List Nat}{b:Nat}{ss:List Nat}{σ:St}{k:AV→St→Prop},callT G f (I l[i]!::cs) fr roots b ss σ k=k (Bo (q l[i]!)) σ:=(hok i hlt).rule;simp only [go_sem,↓reduceIte,↓Aa,Ab hlt (by omega),Int.ofNat_lt,hlt,hp,ht,hcall];refine ⟨fun h=>?_,fun h=>hN (i+1) _ (by omega) ⟨by omega,Ae hall h,?_⟩⟩
   ·subst hQ;simp only [go_sem,↓reduceIte,↓Aa];exact ⟨i,rfl,.inl ⟨i,hlt,rfl,h,hall⟩⟩
   ·simp only [go_sem,↓reduceIte,↓Aa]
  ·have hil:i=l.length:=by omega
   subst hil hQ;simp only [go_sem,↓reduceIte,↓Aa,Int.ofNat_lt,hlt];exact ⟨-1,rfl,.inr ⟨rfl,hall⟩⟩
 ·exact ⟨by omega,by simp,by simp only [go_sem,↓reduceIte,↓Aa]⟩
theorem Us (l:List Int)(hl:l.length≤1048576)(f:FuncId)(cs:List AV)(q:Int→Bool)(hp:PureF G f)(ht:∀h,treeBL 0 h cs=cs)(hok:∀i<l.length,FnT G f (I l[i]!::cs) (Bo (q l[i]!))) :
 FnT G Au [.lst (l.map I),.fn f cs] (Bo (l.any q)):=by
 obtain ⟨v,hv,he⟩:=QF l hl f cs q hp ht hok;have hcall:∀ {fr:Bool}{roots:List Nat}{b:Nat}{ss:List Nat}{σ:St}{k:AV→St→Prop},callT G Ah [.lst (l.map I),.fn f cs] fr roots b ss σ k=k (I v) σ:=hv.rule;refine FnP.mk' Hk rfl rfl ?_;simp only [go_sem,↓reduceIte,↓Aa,CQ,hcall,ht];rcases he with ⟨k,h1,rfl,h2,h3⟩|⟨rfl,h3⟩
 ·rw [decide_eq_true (by omega),List.any_eq_true.2 ⟨_,AJ h1,h2⟩]
 ·rw [decide_eq_false (by omega)];rw [List.any_eq_false.2 fun x hx=>by obtain ⟨j,hj,e⟩:=getAt hx;rw [←e,h3 j hj];simp]
theorem Adx (l:List (List Int))(hl:l.length≤1048576)(f:FuncId)(cs:List AV)(q:List Int→Bool)(hp:PureF G f)(ht:∀h,treeBL 0 h cs=cs)(hok:∀i<l.length,FnT G f (eW l[i]!::cs) (Bo (q l[i]!))) :
 ∃v:Int,FnT G AB [.lst (l.map eW),.fn f cs] (I v)∧decide (0≤v)=l.any q:=by
 suffices hh:FnP G AB [.lst (l.map eW),.fn f cs] (fun rs h=>∃v:Int,packV (treeBL 0 h rs)=I v∧decide (0≤v)=l.any q∧rs.all AV.flats=true) by
  obtain ⟨F,n,rs,σ1,e1,e2,e3,e4,e5,e6,d,h3,h4,h5⟩:=hh;exact ⟨d,⟨F,n,rs,σ1,e1,e2,e3,e4,e5,e6,h3,h5⟩,h4⟩
 refine FnP.mk' Kn rfl rfl ?_;simp only [go_sem,↓reduceIte,↓Aa,EO];refine Ad (fun (i:Nat) σ=>i≤l.length∧(∀j<i,q l[j]! = false)∧σ=⟨aT .undef 19 [(0,.lst (l.map eW)),(1,.fn f cs),(7,I l.length),(8,I i)],[],[]⟩) (fun i=>l.length-i) ?_ 0 ?_
 ·rintro i σ ⟨hi,hall,rfl⟩ N Q hQ hN;by_cases hlt:i<l.length
  ·have hcall:∀ {fr:Bool}{roots:List Nat}{b:Nat}{ss:List Nat}{σ:St}{k:AV→St→Prop},callT G f (.lst (l[i]!.map I)::cs) fr roots b ss σ k=k (Bo (q l[i]!)) σ:=(hok i hlt).rule;simp only [go_sem,↓reduceIte,↓Aa,eW,Ab hlt (by omega),Int.ofNat_lt,hlt,hp,ht,hcall];refine ⟨fun h=>?_,fun h=>hN (i+1) _ (by omega) ⟨by omega,Ae hall h,?_⟩⟩
   ·subst hQ;simp only [go_sem,↓reduceIte,↓Aa];refine ⟨i,rfl,?_⟩;rw [decide_eq_true (by omega)];exact (List.any_eq_true.2 ⟨_,AJ hlt,h⟩).symm
   ·simp only [go_sem,↓reduceIte,↓Aa]
  ·have hil:i=l.length:=by omega
   subst hil hQ;simp only [go_sem,↓reduceIte,↓Aa,Int.ofNat_lt,hlt];refine ⟨-1,rfl,?_⟩;rw [decide_eq_false (by omega)];refine (List.any_eq_false.2 fun x hx=>?_).symm;obtain ⟨j,hj,e⟩:=getAt hx;have:=hall j hj;rw [e] at this;rw [this];simp
 ·exact ⟨by omega,by simp,by simp only [go_sem,↓reduceIte,↓Aa]⟩
theorem Jz (l:List (List Int))(hl:l.length≤1048576)(f:FuncId)(cs:List AV)(q:List Int→Bool)(hp:PureF G f)(ht:∀h,treeBL 0 h cs=cs)(hok:∀i<l.length,FnT G f (eW l[i]!::cs) (Bo (q l[i]!))) :
 FnT G Ag [.lst (l.map eW),.fn f cs] (Bo (l.any q)):=by
 obtain ⟨v,hv,he⟩:=Adx l hl f cs q hp ht hok;have hcall:∀ {fr:Bool}{roots:List Nat}{b:Nat}{ss:List Nat}{σ:St}{k:AV→St→Prop},callT G AB [.lst (l.map eW),.fn f cs] fr roots b ss σ k=k (I v) σ:=hv.rule;refine FnP.mk' Jg rfl rfl ?_;simp only [go_sem,↓reduceIte,↓Aa,Du,hcall,ht];rw [he]
theorem Ae9 (acts:List ByteArray)(x:Int):FnT G BO [I x,.pfro [.lst (acts.map .str)]] (Bo (!decide (0≤x∧x<(acts.length:Int)))):=by
 refine FnP.mk' KQ rfl rfl ?_;by_cases h1:x<0
 ·simp only [go_sem,↓reduceIte,↓Aa,Ja,h1];rw [decide_eq_false (by omega)];rfl
 ·simp only [go_sem,↓reduceIte,↓Aa,Ja,h1];by_cases h2:(acts.length:Int)≤x
  ·rw [decide_eq_true h2,decide_eq_false (by omega)];rfl
  ·rw [decide_eq_false h2,decide_eq_true (by omega)];rfl
theorem AeZ (acts:List ByteArray)(w:List Int):FnT G Dl [.lst (acts.map .str),eW w] (Bo (wordOk acts.length w)):=by
 refine FnP.mk' T5 rfl rfl ?_;by_cases h:w.length≤10000
 ·have hc:∀ {fr:Bool}{roots:List Nat}{b:Nat}{ss:List Nat}{σ:St}{k:AV→St→Prop},callT G Au [.lst (w.map I),.fn BO [.pfro [.lst (acts.map .str)]]] fr roots b ss σ k=k (Bo (w.any fun x => !decide (0≤x∧x<(acts.length:Int)))) σ :=
   (Us w (by omega) BO [.pfro [.lst (acts.map .str)]] _ ⟨_,KQ,rfl⟩ (fun h=>by simp only [go_sem,↓reduceIte,↓Aa]) (fun i hi=>Ae9 acts _)).rule
  have h':(w.length:Int)≤10000:=by omega
  simp only [go_sem,↓reduceIte,↓Aa,Kk,eW,h',hc];unfold wordOk;rw [decide_eq_true h,Bool.true_and,List.any_eq_not_all_not,Bool.not_not];simp only [Bool.not_not]
 ·have h':¬(w.length:Int)≤10000:=by omega
  simp only [go_sem,↓reduceIte,↓Aa,Kk,eW,h'];unfold wordOk;rw [decide_eq_false h,Bool.false_and]
theorem X4 (n:Nat)(w:List Int)(hw:w.length≤1048576):FnT G Dr [I n,eW w] (Bo (w.all fun x=>decide (0≤x∧x<(n:Int)))):=by
 refine FnP.mk' S2 rfl rfl ?_;simp only [go_sem,↓reduceIte,↓Aa,MV,eW];refine Ad (fun (i:Nat) σ=>i≤w.length∧(∀j<i,0≤w[j]!∧w[j]! < (n:Int))∧σ=⟨aT .undef 21 [(0,I n),(7,.lst (w.map I)),(8,I w.length),(9,I i)],[],[]⟩) (fun i=>w.length-i) ?_ 0 ?_
 ·rintro i σ ⟨hi,hall,rfl⟩ N Q hQ hN;by_cases hlt:i<w.length
  ·have bad:¬(0≤w[i]!∧w[i]! < (n:Int))→(w.all fun x=>decide (0≤x∧x<(n:Int)))=false:=fun h=>by
    rw [List.all_eq_false];exact ⟨_,AJ hlt,by simpa using h⟩
   by_cases h1:w[i]! < 0
   ·simp only [go_sem,↓reduceIte,↓Aa,Ab hlt (by omega),Int.ofNat_lt,hlt,h1];subst hQ;simp only [go_sem,↓reduceIte,↓Aa];rw [bad (by omega)]
   ·by_cases h2:(n:Int)≤w[i]!
    ·simp only [go_sem,↓reduceIte,↓Aa,Ab hlt (by omega),Int.ofNat_lt,hlt,h1,h2];subst hQ;simp only [go_sem,↓reduceIte,↓Aa];rw [bad (by omega)]
    ·simp only [go_sem,↓reduceIte,↓Aa,Ab hlt (by omega),Int.ofNat_lt,hlt,h1,h2];exact hN (i+1) _ (by omega) ⟨by omega,Ae hall ⟨by omega,by omega⟩,by simp only [go_sem,↓reduceIte,↓Aa]⟩
  ·have hil:i=w.length:=by omega
   subst hil hQ;simp only [go_sem,↓reduceIte,↓Aa,Int.ofNat_lt,hlt];rw [List.all_eq_true.2 fun x hx=>by obtain ⟨j,hj,e⟩:=getAt hx;rw [←e];simpa using hall j hj]
 ·exact ⟨by omega,by simp,by simp only [go_sem,↓reduceIte,↓Aa]⟩
theorem Afv (n:Nat)(w:List Int):FnT G Ht [I n,eW w] (Bo (wordOk n w)):=by
 refine FnP.mk' Aa8 rfl rfl ?_;by_cases h:w.length≤10000
 ·have hc:∀ {fr:Bool}{roots:List Nat}{b:Nat}{ss:List Nat}{σ:St}{k:AV→St→Prop},callT G Dr [I n,.lst (w.map I)] fr roots b ss σ k=k (Bo _) σ:=(X4 n w (by omega)).rule;have h':(w.length:Int)≤10000:=by omega
  simp only [go_sem,↓reduceIte,↓Aa,NH,eW,h',hc];unfold wordOk;rw [decide_eq_true h,Bool.true_and]
 ·have h':¬(w.length:Int)≤10000:=by omega
  simp only [go_sem,↓reduceIte,↓Aa,NH,eW,h'];unfold wordOk;rw [decide_eq_false h,Bool.false_and]
theorem AgC (l:List (List Int))(hl:l.length≤1048576)(hw:∀i<l.length,l[i]!.length≤17592186044416):Fn G Fu [.lst (l.map eW)] (.lst (l.map eW)):=by
 refine FnP.mk' Xx rfl rfl ?_;simp only [go_sem,↓reduceIte,↓Aa,QB];refine Ad (fun (i:Nat) σ=>i≤l.length∧∃a0 c0 a1 c1 a2,σ=⟨aT .undef 19 [(3,Mo .nils 1 2 a2 ((l.take i).map fun w=>cellv .nils 1 (w.map I))),(6,.lst (l.map eW)),(7,I l.length),(8,I i)],[⟨a0,c0,.gone⟩,⟨a1,c1,.gone⟩,⟨a2,0,Pa 1 ((l.take i).map fun w=>cellv .nils 1 (w.map I))⟩],[]⟩) (fun i=>l.length-i) ?_ 0 ?_
 ·rintro i σ ⟨hi,a0,c0,a1,c1,a2,rfl⟩ N Q hQ hN;by_cases hlt:i<l.length
  ·have hwi:=hw i hlt;simp only [go_sem,↓reduceIte,↓Aa,eW,Ab hlt (by omega),Int.ofNat_lt,hlt];refine ⟨by omega,by rw [List.length_take];omega,hN (i+1) _ (by omega) ⟨by omega,?_⟩⟩;simp only [go_sem,↓reduceIte,↓Aa,EK _ hlt,List.length_map,List.map_append,List.map_cons,List.map_nil,eW];repeat apply Exists.intro
   rfl
  ·have hil:i=l.length:=by omega
   subst hil hQ;simp only [go_sem,↓reduceIte,↓Aa,Int.ofNat_lt,hlt,List.take_length,List.map_map];congr 1;refine List.map_congr_left fun w hw=>?_;simp only [Function.comp,go_sem,eW,K0]
 ·refine ⟨by omega,?_⟩;simp only [go_sem,↓reduceIte,↓Aa,List.take_zero,List.map_nil];repeat apply Exists.intro
  rfl
def begB (ws:List (List Int))(w:List Int)(whole:Bool):Bool:=ws.any fun v=>w.isPrefixOf v&&(!whole||decide (v.length=w.length))
theorem Aea {ws:List (List Int)}{w:List Int}:begB ws w true=true↔w∈ws:=by
 unfold begB;simp only [List.any_eq_true,Bool.and_eq_true,List.isPrefixOf_iff_prefix,Bool.not_true,Bool.false_or,decide_eq_true_eq];exact ⟨fun ⟨v,h1,h2,h3⟩=>by rw [h2.eq_of_length h3.symm];exact h1,fun h=>⟨w,h,List.prefix_refl _,rfl⟩⟩
theorem Ll {ws:List (List Int)}{w:List Int}:begB ws w false=true↔∃v∈ws,w <+: v:=by
 unfold begB;simp only [List.any_eq_true,Bool.and_eq_true,List.isPrefixOf_iff_prefix,Bool.not_false,Bool.true_or,and_true]
theorem Acx (l k:List Int)(hl:l.length≤1048576)(hk:k.length≤1048576):FnT G A1 [.lst (l.map I),.lst (k.map I)] (Bo (decide (l=k))):=by
 refine FnP.mk' L2 rfl rfl ?_;simp only [go_sem,↓reduceIte,↓Aa,JP];refine ⟨fun h=>?_,fun h=>?_⟩
 ·have h1:=h;rw [decide_eq_false];intro e;subst e;simp at h1
 ·have hlk:l.length=k.length:=by have:=h;simp at this;omega
  refine Ad (fun (i:Nat) σ=>i≤l.length∧(∀j<i,l[j]! = k[j]!)∧σ=⟨aT .undef 26 [(1,.lst (k.map I)),(12,.lst (l.map I)),(13,I l.length),(14,I i)],[],[]⟩) (fun i=>l.length-i) ?_ 0 ?_
  ·rintro i σ ⟨hi,hall,rfl⟩ N Q hQ hN;by_cases hlt:i<l.length
   ·have hltk:i<k.length:=by omega
    simp only [go_sem,↓reduceIte,↓Aa,Ab hlt (by omega),Int.ofNat_lt,hlt,hltk];refine ⟨fun h=>?_,fun h=>?_⟩
    ·subst hQ;simp only [go_sem,↓reduceIte,↓Aa];rw [decide_eq_false (fun e=>by rw [e] at h;simp at h)]
    ·refine hN (i+1) _ (by omega) ⟨by omega,Ae hall (by simpa using h),?_⟩;simp only [go_sem,↓reduceIte,↓Aa]
   ·have hil:i=l.length:=by omega
    subst hil hQ;simp only [go_sem,↓reduceIte,↓Aa,Int.ofNat_lt,hlt];rw [decide_eq_true];apply List.ext_getElem hlk;intro j h1 h2;have:=hall j h1;rwa [getElem!_pos l j h1,getElem!_pos k j h2] at this
  ·exact ⟨by omega,by simp,by simp only [go_sem,↓reduceIte,↓Aa]⟩
theorem Ac3 (ws:List (List Int))(hl:ws.length≤1048576)(hw:∀i<ws.length,ws[i]!.length≤1048576)(w:List Int)(hwl:w.length≤1048576)(whole:Bool):FnT G Cr [.lst (ws.map eW),eW w,Bo whole] (Bo (begB ws w whole)):=by
 refine FnP.mk' UC rfl rfl ?_;simp only [go_sem,↓reduceIte,↓Aa,Oq,eW];refine Ad (fun (i:Nat) σ=>i≤ws.length∧(∀j<i,(w.isPrefixOf ws[j]!&&(!whole||decide (ws[j]!.length=w.length)))=false)∧σ=⟨aT .undef 40 [(1,.lst (w.map I)),(2,Bo whole),(9,.lst (ws.map eW)),(10,I ws.length),(11,I i)],[],[]⟩) (fun i=>ws.length-i) ?_ 0 ?_
 ·rintro i σ ⟨hi,hall,rfl⟩ N Q hQ hN;by_cases hlt:i<ws.length
  ·have hwi:=hw i hlt;have good:(w.isPrefixOf ws[i]!&&(!whole||decide (ws[i]!.length=w.length)))=true→begB ws w whole=true:=fun h=>List.any_eq_true.2 ⟨_,AJ hlt,h⟩;have next:(w.isPrefixOf ws[i]!&&(!whole||decide (ws[i]!.length=w.length)))=false→∀j<i+1,(w.isPrefixOf ws[j]!&&(!whole||decide (ws[j]!.length=w.length)))=false:=fun h=>Ae hall h
   have hpre:w.isPrefixOf ws[i]! = true↔w.length≤ws[i]!.length∧ws[i]!.take w.length=w:=by
    rw [List.isPrefixOf_iff_prefix];exact ⟨fun h=>⟨h.length_le,(List.prefix_iff_eq_take.1 h).symm⟩,fun h=>List.prefix_iff_eq_take.2 h.2.symm⟩
   have hc:∀ {fr:Bool}{roots:List Nat}{b:Nat}{ss:List Nat}{σ:St}{k:AV→St→Prop},callT G A1 [.lst ((ws[i]!.take w.length).map I),.lst (w.map I)] fr roots b ss σ k=k (Bo _) σ:=(Acx _ w (by rw [List.length_take];omega) hwl).rule;by_cases h1:(w.length:Int)≤(ws[i]!.length:Int)
   ·by_cases h2:ws[i]!.take w.length=w
    ·have hp:=hpre.2 ⟨by omega,h2⟩;have hs:∀ {fr:Bool}{roots:List Nat}{b:Nat}{ss:List Nat}{σ:St}{k:AV→St→Prop},callT G A1 [.lst (w.map I),.lst (w.map I)] fr roots b ss σ k=k (Bo true) σ:=Xk hwl;cases whole with
     | false =>
       simp only [go_sem,↓reduceIte,↓Aa,eW,Ab hlt (by omega),Int.ofNat_lt,hlt,h1,takeM,hs,h2];subst hQ;simp only [go_sem,↓reduceIte,↓Aa];rw [good (by rw [hp];rfl)]
     | true =>
       by_cases h3:(ws[i]!.length:Int)=(w.length:Int)
       ·have h3b:((ws[i]!.length:Int)==(w.length:Int))=true:=by rw [beq_iff_eq];exact h3
        simp only [go_sem,↓reduceIte,↓Aa,eW,Ab hlt (by omega),Int.ofNat_lt,hlt,h1,takeM,hs,h2,h3b];subst hQ;simp only [go_sem,↓reduceIte,↓Aa];rw [good (by rw [hp,decide_eq_true (by omega)];rfl)]
       ·have h3b:((ws[i]!.length:Int)==(w.length:Int))=false:=by rw [beq_eq_false_iff_ne];exact h3
        simp only [go_sem,↓reduceIte,↓Aa,eW,Ab hlt (by omega),Int.ofNat_lt,hlt,h1,takeM,hs,h2,h3b];exact hN (i+1) _ (by omega) ⟨by omega,next (by rw [decide_eq_false (by omega)];simp),by simp only [go_sem,↓reduceIte,↓Aa]⟩
    ·have hp:w.isPrefixOf ws[i]! = false:=by rw [Bool.eq_false_iff];exact fun h=>h2 (hpre.1 h).2
     simp only [go_sem,↓reduceIte,↓Aa,eW,Ab hlt (by omega),Int.ofNat_lt,hlt,h1,takeM,hc,h2,decide_false];exact hN (i+1) _ (by omega) ⟨by omega,next (by rw [hp,Bool.false_and]),by simp only [go_sem,↓reduceIte,↓Aa]⟩
   ·have hp:w.isPrefixOf ws[i]! = false:=by rw [Bool.eq_false_iff];exact fun h=>h1 (by have:=(hpre.1 h).1;omega)
    simp only [go_sem,↓reduceIte,↓Aa,eW,Ab hlt (by omega),Int.ofNat_lt,hlt,h1];exact hN (i+1) _ (by omega) ⟨by omega,next (by rw [hp,Bool.false_and]),by simp only [go_sem,↓reduceIte,↓Aa]⟩
  ·have hil:i=ws.length:=by omega
   subst hil hQ;simp only [go_sem,↓reduceIte,↓Aa,Int.ofNat_lt,hlt];unfold begB;rw [List.any_eq_false.2 fun x hx=>by obtain ⟨j,hj,e⟩:=getAt hx;rw [←e,hall j hj];simp]
 ·exact ⟨by omega,by simp,by simp only [go_sem,↓reduceIte,↓Aa]⟩
def Nj (ws:List (List Int))(w:List Int):Nat→Nat
 | 0=>0
 | a+1=>if begB ws (w++[(a:Int)]) true=true then Nj ws w a else Nj ws w a|||2 ^ a
theorem Y9 {ws:List (List Int)}{w:List Int}{a:Nat}:∀ {n},(Nj ws w n).testBit a=true↔a<n∧begB ws (w++[(a:Int)]) true=false:=by
 intro n;induction n with
 | zero=>simp [Nj]
 | succ n ih =>
   unfold Nj;split
   ·rename_i h;rw [ih];constructor
    ·rintro ⟨h1,h2⟩;exact ⟨by omega,h2⟩
    ·rintro ⟨h1,h2⟩;refine ⟨?_,h2⟩;rcases Nat.lt_or_eq_of_le (Nat.le_of_lt_succ h1) with h3|rfl
     ·exact h3
     ·rw [h] at h2;cases h2
   ·rename_i h;rw [Nat.testBit_or,Bool.or_eq_true,ih,Nat.testBit_two_pow,decide_eq_true_eq];constructor
    ·rintro (⟨h1,h2⟩|rfl)
     ·exact ⟨by omega,h2⟩
     ·exact ⟨by omega,by simpa using h⟩
    ·rintro ⟨h1,h2⟩;rcases Nat.lt_or_eq_of_le (Nat.le_of_lt_succ h1) with h3|rfl
     ·exact .inl ⟨h3,h2⟩
     ·exact .inr rfl
theorem Xq {ws:List (List Int)}{w:List Int}:∀n,Nj ws w n<2 ^ n
 | 0=>by simp [Nj]
 | n+1=>by
   have:=Xq (ws:=ws) (w:=w) n;have h2:2 ^ n<2 ^ (n+1):=by rw [Nat.pow_succ];have:=Nat.two_pow_pos n;omega
   unfold Nj;split
   ·omega
   ·exact Nat.or_lt_two_pow (by omega) (by omega)
def acW (n:Nat)(ws:List (List Int))(w:List Int):List Int:=(upI (2 ^ n)).filter fun v=>decide (v.toNat&&&Nj ws w n=v.toNat)
theorem Xh {k c:Nat}:k&&&c=k↔∀a,k.testBit a=true→c.testBit a=true:=by
 constructor
 ·intro h a ha;rw [←h,Nat.testBit_and,Bool.and_eq_true] at ha;exact ha.2
 ·intro h;apply Nat.eq_of_testBit_eq;intro a;rw [Nat.testBit_and];cases hk:k.testBit a with
  | false=>rfl
  | true=>rw [h a hk];rfl
theorem WO {n:Nat}{ws:List (List Int)}{w:List Int}{v:Int}:v∈acW n ws w↔(0≤v∧v<((2 ^ n:Nat):Int))∧∀a,hasA v a=true→begB ws (w++[(a:Int)]) true=false:=by
 unfold acW;rw [List.mem_filter,Adi,decide_eq_true_iff,Xh];constructor
 ·rintro ⟨h1,h2⟩;exact ⟨h1,fun a ha=>(Y9.1 (h2 a ha)).2⟩
 ·rintro ⟨h1,h2⟩;exact ⟨h1,fun a ha=>Y9.2 ⟨AO (n:=v.toNat) (by omega) ha,h2 a ha⟩⟩
theorem AjS {n:Nat}{ws:List (List Int)}{w:List Int}:(acW n ws w).Pairwise (· < ·):=List.Pairwise.filter _ (by
 unfold upI;rw [List.pairwise_map];exact List.Pairwise.imp (fun h=>by omega) List.pairwise_lt_range)
def stepW (ws:List (List Int))(st:List (List Int))(w:List Int)(b:Nat)(x:Int):Prop :=
 if begB ws (w++[(b:Int)]) true=true then x=-1 else if begB ws (w++[(b:Int)]) false=true then ∃j:Nat,x=j∧2≤j∧j<st.length∧st[j]! = w++[(b:Int)] else x=1
theorem stepW.mono {ws st st':List (List Int)}{w:List Int}{b:Nat}{x:Int}(h:stepW ws st w b x)(hp:st <+: st'):stepW ws st' w b x:=by
 unfold stepW at h ⊢;split
 ·rename_i h1;rw [if_pos h1] at h;exact h
 ·rename_i h1;rw [if_neg h1] at h;split
  ·rename_i h2;rw [if_pos h2] at h;obtain ⟨j,h3,h4,h5,h6⟩:=h;exact ⟨j,h3,h4,Nat.lt_of_lt_of_le h5 hp.length_le,by rw [EN hp h5];exact h6⟩
  ·rename_i h2;rw [if_neg h2] at h;exact h
structure WX (ws:List (List Int))(w:List Int)(st0:List (List Int))(a:Nat)(st:List (List Int))(X:List Int):Prop where
 pre:st0 <+: st
 two:2≤st0.length
 new:∀j,st0.length≤j→j<st.length→∃b:Nat,b<a∧st[j]! = w++[(b:Int)]∧begB ws st[j]! false=true
 inj:∀j k,st0.length≤j→j<k→k<st.length→st[j]!≠st[k]!
 fl:st.length≤st0.length+a
 xl:X.length=a
 xs:∀b<a,stepW ws st w b X[b]!
theorem WX.start {ws:List (List Int)}{w:List Int}{st0:List (List Int)}(h2:2≤st0.length):WX ws w st0 0 st0 [] :=
 ⟨List.prefix_refl _,h2,fun j h1 h2=>by omega,fun j k h1 h2 h3=>by omega,by omega,rfl,fun b h=>by omega⟩
section
variable {ws:List (List Int)}{w:List Int}{st0 st:List (List Int)}{a:Nat}{X:List Int}
theorem WX.ext (h:WX ws w st0 a st X){st':List (List Int)}{x:Int}(hp:st <+: st')(hn:∀j,st.length≤j→j<st'.length→st'[j]! = w++[(a:Int)]∧begB ws st'[j]! false=true)(hl:st'.length≤st.length+1)(hx:stepW ws st' w a x):WX ws w st0 (a+1) st' (X++[x]):=by
 have hll:=h.pre.length_le;have hll2:=hp.length_le;refine ⟨h.pre.trans hp,h.two,fun j h1 h2=>?_,fun j k h1 h2 h3=>?_,by have:=h.fl;omega,by simp [h.xl],fun b hb=>?_⟩
 ·by_cases hj:j<st.length
  ·obtain ⟨b,g1,g2,g3⟩:=h.new j h1 hj;rw [EN hp hj];exact ⟨b,by omega,g2,g3⟩
  ·obtain ⟨g1,g2⟩:=hn j (by omega) h2;exact ⟨a,by omega,g1,g2⟩
 ·by_cases hk:k<st.length
  ·rw [EN hp hk,EN hp (by omega)];exact h.inj j k h1 h2 hk
  ·have hj:j<st.length:=by omega
   obtain ⟨b,g1,g2,g3⟩:=h.new j h1 hj;rw [EN hp hj,(hn k (by omega) h3).1,g2];intro e;have:=List.append_cancel_left e;simp at this;omega
 ·rw [B1,h.xl];by_cases e:b=a
  ·subst e;rw [if_pos rfl];exact hx
  ·rw [if_neg e];exact (h.xs b (by omega)).mono hp
theorem WX.bad (h:WX ws w st0 a st X)(hb:begB ws (w++[(a:Int)]) true=true):WX ws w st0 (a+1) st (X++[-1]) :=
 h.ext (List.prefix_refl _) (fun j h1 h2=>by omega) (by omega) (by unfold stepW;rw [if_pos hb])
theorem WX.free (h:WX ws w st0 a st X)(hb:begB ws (w++[(a:Int)]) true=false)(hf:begB ws (w++[(a:Int)]) false=false):WX ws w st0 (a+1) st (X++[1]) :=
 h.ext (List.prefix_refl _) (fun j h1 h2=>by omega) (by omega) (by unfold stepW;rw [if_neg (by rw [hb];simp),if_neg (by rw [hf];simp)])
theorem WX.more (h:WX ws w st0 a st X)(hb:begB ws (w++[(a:Int)]) true=false)(hf:begB ws (w++[(a:Int)]) false=true):WX ws w st0 (a+1) (st++[w++[(a:Int)]]) (X++[(st.length:Int)]):=by
 have:=h.two;have:=h.pre.length_le;refine h.ext (List.prefix_append _ _) (fun j h1 h2=>?_) (by simp) ?_
 ·have e:j=st.length:=by simp at h2;omega
  subst e;rw [B1,if_pos rfl];exact ⟨rfl,hf⟩
 ·unfold stepW;rw [if_neg (by rw [hb];simp),if_pos hf];exact ⟨st.length,rfl,by omega,by simp,by rw [B1,if_pos rfl]⟩
end
structure WI (n:Nat)(ws:List (List Int))(i:Nat)(st:List (List Int))(outs:List Stt):Prop where
 len:outs.length=i
 il:i≤st.length
 two:2≤st.length
 z:st[0]! = []
 beg:∀j,2≤j→j<st.length→begB ws st[j]! false=true
 par:∀j,2≤j→j<st.length→∃k b:Nat,k<i∧k<st.length∧k≠1∧st[j]! = st[k]!++[(b:Int)]
 nd:∀j k,j<k→k<st.length→j≠1→k≠1→st[j]!≠st[k]!
 o:∀j<i,j≠1→outs[j]!.A=acW n ws st[j]!∧outs[j]!.X.length=n∧∀b<n,stepW ws st st[j]! b outs[j]!.X[b]!
 o1:1<i→outs[1]! = ⟨upI (2 ^ n),List.replicate n 1⟩
theorem WI.start {n:Nat}{ws:List (List Int)}:WI n ws 0 [[],[]] [] :=
 ⟨rfl,by simp,by simp,rfl,fun j h1 h2=>by simp at h2;omega,fun j h1 h2=>by simp at h2;omega,fun j k h1 h2 h3 h4=>by simp at h2;omega,fun j h=>by omega,fun h=>by omega⟩
section
variable {n i:Nat}{ws st st':List (List Int)}{outs:List Stt}{X:List Int}
theorem WI.one (h:WI n ws i st outs)(hi:i=1):WI n ws (i+1) st (outs++[⟨upI (2 ^ n),List.replicate n 1⟩]):=by
 have hl:=h.len;have h2:=h.two;refine ⟨by simp [hl],by omega,h2,h.z,h.beg,fun j h1 h2=>?_,h.nd,fun j hj h1=>?_,fun _=>?_⟩
 ·obtain ⟨k,b,g1,g2,g3,g4⟩:=h.par j h1 h2;exact ⟨k,b,by omega,g2,g3,g4⟩
 ·rw [B1,hl,if_neg (by omega)];exact h.o j (by omega) h1
 ·rw [B1,hl,if_pos (by omega)]
theorem WI.next (h:WI n ws i st outs)(hi:i<st.length)(h1:i≠1)(hx:WX ws st[i]! st n st' X):WI n ws (i+1) st' (outs++[⟨acW n ws st[i]!,X⟩]):=by
 have hl:=h.len;have hpl:=hx.pre.length_le;have h2:=h.two;have hg:∀ {j},j<st.length→st'[j]! = st[j]!:=fun hj=>EN hx.pre hj;refine ⟨by simp [hl],by omega,by omega,by rw [hg (by omega)];exact h.z,fun j g1 g2=>?_,fun j g1 g2=>?_,fun j k g1 g2 g3 g4=>?_,fun j hj hj1=>?_,fun h1i=>?_⟩
 ·by_cases hj:j<st.length
  ·rw [hg hj];exact h.beg j g1 hj
  ·exact (hx.new j (by omega) g2).elim fun b hb=>hb.2.2
 ·by_cases hj:j<st.length
  ·obtain ⟨k,b,f1,f2,f3,f4⟩:=h.par j g1 hj;exact ⟨k,b,by omega,by omega,f3,by rw [hg hj,hg f2];exact f4⟩
  ·obtain ⟨b,f1,f2,f3⟩:=hx.new j (by omega) g2;exact ⟨i,b,by omega,by omega,h1,by rw [f2,hg hi]⟩
 ·by_cases hk:k<st.length
  ·rw [hg hk,hg (by omega)];exact h.nd j k g1 hk g3 g4
  ·by_cases hj:j<st.length
   ·obtain ⟨b,f1,f2,f3⟩:=hx.new k (by omega) g2;rw [f2,hg hj];by_cases hj2:2≤j
    ·obtain ⟨k',b',d1,d2,d3,d4⟩:=h.par j hj2 hj;rw [d4];intro e;have e2:st[k']! = st[i]!:=by
      have:=congrArg List.dropLast e;simpa using this
     exact h.nd k' i d1 hi d3 h1 e2
    ·have:j=0:=by omega
     subst this;rw [h.z];simp
   ·exact hx.inj j k (by omega) g1 g2
 ·rw [B1,hl];by_cases e:j=i
  ·subst e;rw [if_pos rfl,hg hi];exact ⟨rfl,hx.xl,fun b hb=>hx.xs b hb⟩
  ·rw [if_neg e,hg (by omega)];obtain ⟨f1,f2,f3⟩:=h.o j (by omega) hj1;exact ⟨f1,f2,fun b hb=>(f3 b hb).mono hx.pre⟩
 ·rw [B1,hl,if_neg (by omega)];exact h.o1 (by omega)
def sumW (ws:List (List Int)):Nat:=(ws.map List.length).sum
def AiU (ws:List (List Int)):List (List Int):=ws.flatMap fun w=>(List.range w.length).map fun k=>w.take (k+1)
theorem AfT:(AiU ws).length=sumW ws:=by
 unfold AiU sumW;induction ws with
 | nil=>rfl
 | cons w ws ih=>simp [ih]
theorem AeY {v:List Int}(h0:v≠[])(h:begB ws v false=true):v∈AiU ws:=by
 obtain ⟨w,h1,h2⟩:=Ll.1 h;have hl:0<v.length:=List.length_pos_iff.2 h0;have hle:=h2.length_le;refine List.mem_flatMap.2 ⟨w,h1,List.mem_map.2 ⟨v.length-1,List.mem_range.2 (by omega),?_⟩⟩;rw [show v.length-1+1=v.length by omega];exact (List.prefix_iff_eq_take.1 h2).symm
theorem WI.few (h:WI n ws i st outs):st.length≤sumW ws+2:=by
 have hm:∀v∈st.drop 2,v∈AiU ws:=fun v hv=>by
  obtain ⟨j,hj,e⟩:=List.mem_iff_getElem.1 hv;rw [List.length_drop] at hj;rw [List.getElem_drop] at e;have e1:st[2+j]! = v:=by rw [getElem!_pos st (2+j) (by omega)];exact e
  obtain ⟨k,b,_,_,_,e2⟩:=h.par (2+j) (by omega) (by omega);rw [←e1];exact AeY (by rw [e2];simp) (h.beg (2+j) (by omega) (by omega))
 have hp:(st.drop 2).Pairwise (· ≠ ·):=List.pairwise_iff_getElem.2 fun j k hj hk hjk=>by
  rw [List.length_drop] at hj hk;rw [List.getElem_drop,List.getElem_drop];have:=h.nd (2+j) (2+k) (by omega) (by omega) (by omega) (by omega);rwa [getElem!_pos st (2+j) (by omega),getElem!_pos st (2+k) (by omega)] at this
 have hn:((st.drop 2).map fun v=>(AiU ws).idxOf v).Nodup:=by
  refine List.pairwise_map.2 (List.Pairwise.imp_of_mem (fun {a b} ha hb hab he=>hab ?_) hp);have i1:=List.idxOf_lt_length_of_mem (hm a ha);have i2:=List.idxOf_lt_length_of_mem (hm b hb);have e1:=List.getElem_idxOf i1;have e2:=List.getElem_idxOf i2;rw [←e1,←e2];simp only [he]
 have:=EC hn (n:=(AiU ws).length) (fun x hx=>by
  obtain ⟨v,hv,rfl⟩:=List.mem_map.1 hx;exact List.idxOf_lt_length_of_mem (hm v hv))
 rw [List.length_map,List.length_drop,AfT] at this;omega
end
end Go.Mw
namespace Go.Mw
set_option maxRecDepth 100000
def cW (w:List Int):AV:=cellv .nils 1 (w.map I)
def OW (n i:Nat):List Int:=List.replicate i 1++List.replicate (n-i) 0
theorem V1 {n i:Nat}(h:i<n):(OW n i).set i 1=OW n (i+1):=by
 unfold OW;rw [List.set_append_right _ _ (by simp),List.length_replicate,Nat.sub_self,show n-i=(n-(i+1))+1 by omega,List.replicate_succ,List.set_cons_zero,List.replicate_succ',List.append_assoc];rfl
theorem AbQ {n:Nat}:OW n n=List.replicate n 1:=by simp [OW]
theorem SZ {ws:List (List Int)}{w:List Int}(h:w∈ws):w.length≤sumW ws:=by
 unfold sumW;induction ws with
 | nil=>cases h
 | cons v ws ih =>
   simp only [List.map_cons,List.sum_cons];rcases List.mem_cons.1 h with rfl|h
   ·omega
   ·have:=ih h;omega
theorem Ae5 {ws:List (List Int)}{w:List Int}(h:begB ws w false=true):w.length≤sumW ws:=by
 obtain ⟨v,h1,h2⟩:=Ll.1 h;exact Nat.le_trans h2.length_le (SZ h1)
theorem Md {h:List Ob}{r st ss:Nat}{p:Path}{w:List Int}{q:List AV→List Ob→Prop}(hr:KC h r st p ss .nils 1 (w.map I)):appYK h 1 (On .nils 1 r st p ss (w.map I)) q=q (w.map I) h:=by
 have hp:(w.map I).all (fun e:AV=>e.cells.all AV.plain)=true:=by
  rw [List.all_eq_true];intro x hx;obtain ⟨n,_,rfl⟩:=List.mem_map.1 hx;rfl
 unfold KC Br at hr;by_cases h0:w.map I = []
 ·rw [h0];rfl
 ·cases hn:node h r st p ss with
  | none=>rw [hn] at hr;exact hr.elim
  | some nd =>
    rw [hn] at hr;simp only [cellv,if_neg h0] at hr;subst hr;have e:((w.map I).drop 0).take (w.map I).length=w.map I:=by rw [List.drop_zero,List.take_length]
    unfold appYK appY On;rw [if_neg h0];simp only [hn,e,hp,Nat.zero_add,Nat.le_refl,and_self,if_true]
theorem Ais {w:List Int}{a:Int}:cW (w++[a]) = .own 1 (w.map I++[I a]):=by simp [cW,cellv]
theorem Aft {ws:List (List Int)}{w:List Int}{a:Nat}(h:begB ws (w++[(a:Int)]) true=true):Nj ws w (a+1)=Nj ws w a:=by rw [Nj,if_pos h]
theorem V6 {ws:List (List Int)}{w:List Int}{a:Nat}(h:begB ws (w++[(a:Int)]) true=false):Nj ws w (a+1)=Nj ws w a|||2 ^ a:=by rw [Nj,if_neg (by rw [h];simp)]
theorem AgL (acts:List ByteArray)(ha:acts.length≤8)(ws:List (List Int))(hl:ws.length≤1048576)(hsum:sumW ws≤10000) :
 ∃st outs,WI acts.length ws st.length st outs∧Fn G DR [.lst (acts.map .str),.lst (ws.map eW)] (eSp ⟨acts,outs⟩):=by
 suffices hh:FnP G DR [.lst (acts.map .str),.lst (ws.map eW)] (fun rs h=>∃st outs,WI acts.length ws st.length st outs∧packV (treeBL 0 h rs)=eSp ⟨acts,outs⟩) by
  obtain ⟨v,⟨st,outs,h1,rfl⟩,hf⟩:=FnP.ex (P:=fun v=>∃st outs,WI acts.length ws st.length st outs∧v=eSp ⟨acts,outs⟩) hh;exact ⟨st,outs,h1,hf⟩
 have hw:∀i<ws.length,ws[i]!.length≤1048576:=fun i hi=>Nat.le_trans (SZ (AJ hi)) (by omega);refine FnP.mk' Yf rfl rfl ?_;simp only [go_sem,↓reduceIte,↓Aa,Qk];refine Agw acts ha rfl rfl (by omega) ?_;simp only [go_sem,↓reduceIte,↓Aa];generalize h1e:(⟨sta (acts.map .str) 0,ssa (acts.map .str) 0,Pa 1 (acts.map .str)⟩:Ob)=ob1;refine Ad (fun (i:Nat) σ=>i≤acts.length∧∃ob2 z3,σ=⟨aT .undef 122 [(0,.lst (acts.map .str)),(1,.lst (ws.map eW)),(4,.ptr 0 1 [] 0 0 0),(5,.ptr 3 1 [] 0 0 0),(22,I acts.length),(23,I i)],[⟨1,0,.own 2 [.agg [.nils,.nils]]⟩,ob1,ob2,⟨1,z3,.own 2 [.agg [cellv .nils 1 ((upI (2 ^ acts.length)).map I),cellv .nils 1 ((OW acts.length i).map I)]]⟩,⟨0,0,.gone⟩,⟨0,0,.gone⟩,⟨0,0,.gone⟩,⟨0,0,.gone⟩,⟨0,0,.gone⟩,⟨0,0,.gone⟩,⟨0,0,.gone⟩,⟨0,0,.gone⟩,⟨0,0,.gone⟩,⟨0,0,.gone⟩,⟨0,0,.gone⟩,⟨0,0,.gone⟩,⟨0,0,.gone⟩,⟨0,0,.gone⟩,⟨0,0,.gone⟩,⟨0,0,.gone⟩,⟨0,0,.gone⟩,⟨0,0,.gone⟩,⟨0,0,.gone⟩,⟨0,0,.gone⟩,⟨0,0,.gone⟩],[]⟩) (fun i=>acts.length-i) ?_ 0 ?_
 ·rintro i σ ⟨hi,ob2,z3,rfl⟩ N Q hQ hN;by_cases hlt:i<acts.length
  ·have hol:(OW acts.length i).length=acts.length:=by simp [OW];omega
   have hne:¬(OW acts.length i).map I = []:=fun e=>by
    have:=congrArg List.length e;rw [List.length_map,hol] at this;simp only [List.length_nil] at this;omega
   simp only [go_sem,↓reduceIte,↓Aa,Ab hlt (by omega),Int.ofNat_lt,hlt,hol];refine ⟨hne,hne,hN (i+1) _ (by omega) ⟨by omega,?_⟩⟩;have hne2:¬(OW acts.length (i+1)).map I = []:=fun h=>by rw [←V1 hlt] at h;exact hne (by simpa using h)
   simp only [go_sem,↓reduceIte,↓Aa,V1 hlt];refine ⟨ob2,z3,?_⟩;simp only [cellv,if_neg hne2]
  ·have hil:i=acts.length:=by omega
   subst hil hQ;simp only [go_sem,↓reduceIte,↓Aa,Int.ofNat_lt,hlt,AbQ];refine ⟨by omega,?_⟩;refine Ad (fun (g:List (List Int)×List Stt) σ=>WI acts.length ws g.2.length g.1 g.2∧∃es z6 s4 t4 a3 c3 a5 c5 a7 c7 a8 c8 a9 c9 a10 c10 a11 c11 a12 c12 a13 c13 a14 c14 a15 c15 a16 c16 a17 c17 a18 c18 a19 c19 a20 c20 a21 c21 a22 c22 a23 c23 a24 c24,es.map frz=g.2.map eSt∧mv1 0 7 4 σ=⟨aT .undef 122 [(7,.sl 4 s4 [] 0 0 g.1.length),(0,.lst (acts.map .str)),(1,.lst (ws.map eW)),(4,.ptr 0 1 [] 0 0 0),(5,.pfro [.lst ((upI (2 ^ acts.length)).map I),.lst ((List.replicate acts.length 1).map I)]),(8,.ptr 6 1 [] 0 0 0),(9,I g.2.length)],[⟨1,0,.own 2 [.agg [.nils,.nils]]⟩,ob1,ob2,⟨a3,c3,.gone⟩,⟨s4,t4,.own 1 (g.1.map cW)⟩,⟨a5,c5,.gone⟩,⟨1,z6,.own 2 [.agg [cellv .nils 1 (acts.map .str),cellv .nils 2 es]]⟩,⟨a7,c7,.gone⟩,⟨a8,c8,.gone⟩,⟨a9,c9,.gone⟩,⟨a10,c10,.gone⟩,⟨a11,c11,.gone⟩,⟨a12,c12,.gone⟩,⟨a13,c13,.gone⟩,⟨a14,c14,.gone⟩,⟨a15,c15,.gone⟩,⟨a16,c16,.gone⟩,⟨a17,c17,.gone⟩,⟨a18,c18,.gone⟩,⟨a19,c19,.gone⟩,⟨a20,c20,.gone⟩,⟨a21,c21,.gone⟩,⟨a22,c22,.gone⟩,⟨a23,c23,.gone⟩,⟨a24,c24,.gone⟩],[]⟩) (fun g=>sumW ws+3-g.2.length) ?_ ([[],[]],[]) ?_
   ·rintro ⟨st,outs⟩ σ ⟨hI,es,z6,s4,t4,a3,c3,a5,c5,a7,c7,a8,c8,a9,c9,a10,c10,a11,c11,a12,c12,a13,c13,a14,c14,a15,c15,a16,c16,a17,c17,a18,c18,a19,c19,a20,c20,a21,c21,a22,c22,a23,c23,a24,c24,hes,hσ⟩ N Q hQ hN;simp only at hI hes hσ;rw [LR,hσ];have hil:=hI.il;have hfew:=hI.few;by_cases hlt2:outs.length<st.length
    ·by_cases h1:outs.length=1
     ·have hb:((outs.length:Int)==1)=true:=by rw [h1];rfl
      have hel:es.length=outs.length:=by have:=congrArg List.length hes;simpa using this
      simp only [go_sem,↓reduceIte,↓Aa,Int.ofNat_lt,hlt2,hb,Ab hlt2 (show st.length≤1000000000 by omega)];refine ⟨by omega,hN (st,outs++[⟨upI (2 ^ acts.length),List.replicate acts.length 1⟩]) _ (by simp only [List.length_append,List.length_singleton];omega) ⟨by simp only [List.length_append,List.length_singleton];exact hI.one h1,es++[.agg [.lst ((upI (2 ^ acts.length)).map I),.lst ((List.replicate acts.length 1).map I)]],?_⟩⟩;simp only [go_sem,↓reduceIte,↓Aa];rw [Bt rfl (by decide)];simp only [go_sem,↓reduceIte,↓Aa,List.map_append,List.length_append,List.length_singleton];repeat apply Exists.intro
      refine ⟨?_,rfl⟩;rw [hes];rfl
     ·have hb:((outs.length:Int)==1)=false:=by rw [beq_eq_false_iff_ne];omega
      simp only [go_sem,↓reduceIte,↓Aa,Int.ofNat_lt,hlt2,hb];have hnext:=fun {st':List (List Int)}{X:List Int}=>hI.next (st':=st') (X:=X) hlt2 h1;have hbeg:st[outs.length]!.length≤sumW ws:=by
       by_cases h0:outs.length=0
       ·rw [h0,hI.z];simp
       ·exact Ae5 (hI.beg _ (by omega) hlt2)
      generalize hwe:st[outs.length]! = w at *;refine Ad (fun (g:List (List Int)×List Int) σ=>g.2.length≤acts.length∧WX ws w st g.2.length g.1 g.2∧∃s4 t4 z9 a10 c10 a11 c11 a12 c12 a13 c13 a14 c14 a15 c15 a16 c16 a17 c17 a18 c18 a19 c19 a20 c20,mv1 0 7 4 σ=⟨aT .undef 122 [(7,.sl 4 s4 [] 0 0 g.1.length),(0,.lst (acts.map .str)),(1,.lst (ws.map eW)),(4,.ptr 0 1 [] 0 0 0),(5,.pfro [.lst ((upI (2 ^ acts.length)).map I),.lst ((List.replicate acts.length 1).map I)]),(8,.ptr 6 1 [] 0 0 0),(9,I outs.length),(10,.ptr 9 (a9+1) [] 0 0 0),(11,I (Nj ws w g.2.length:Nat)),(50,I acts.length),(51,I g.2.length)],[⟨1,0,.own 2 [.agg [.nils,.nils]]⟩,ob1,ob2,⟨a3,c3,.gone⟩,⟨s4,t4,.own 1 (g.1.map cW)⟩,⟨a5,c5,.gone⟩,⟨1,z6,.own 2 [.agg [cellv .nils 1 (acts.map .str),cellv .nils 2 es]]⟩,⟨a7,c7,.gone⟩,⟨a8,c8,.gone⟩,⟨a9+1,z9,.own 2 [.agg [.nils,cellv .nils 1 (g.2.map I)]]⟩,⟨a10,c10,.gone⟩,⟨a11,c11,.gone⟩,⟨a12,c12,.gone⟩,⟨a13,c13,.gone⟩,⟨a14,c14,.gone⟩,⟨a15,c15,.gone⟩,⟨a16,c16,.gone⟩,⟨a17,c17,.gone⟩,⟨a18,c18,.gone⟩,⟨a19,c19,.gone⟩,⟨a20,c20,.gone⟩,⟨a21,c21,.gone⟩,⟨a22,c22,.gone⟩,⟨a23,c23,.gone⟩,⟨a24,c24,.gone⟩],[]⟩) (fun g=>acts.length-g.2.length) ?_ (st,[]) ?_
      ·rintro ⟨st',X⟩ σ ⟨hXn,hX,s4,t4,z9,a10,c10,a11,c11,a12,c12,a13,c13,a14,c14,a15,c15,a16,c16,a17,c17,a18,c18,a19,c19,a20,c20,hσ⟩ N2 Q2 hQ2 hN2;simp only at hXn hX hσ;rw [LR,hσ];have hpl:=hX.pre.length_le;have hfl:=hX.fl;have hgw:st'[outs.length]! = w:=by rw [EN hX.pre hlt2];exact hwe
       have hlt':outs.length<st'.length:=by omega
       by_cases hlt3:X.length<acts.length
       ·have hB:∀ {wh:Bool}{fr:Bool}{roots:List Nat}{b:Nat}{ss:List Nat}{σ:St}{k:AV→St→Prop},callT G Cr [.lst (ws.map eW),.lst ((w++[(X.length:Int)]).map I),Bo wh] fr roots b ss σ k=k (Bo (begB ws (w++[(X.length:Int)]) wh)) σ:=fun {wh}=>(Ac3 ws hl hw (w++[(X.length:Int)]) (by simp only [List.length_append,List.length_singleton];omega) wh).rule;have hB2:∀ {wh:Bool}{fr:Bool}{roots:List Nat}{b:Nat}{ss:List Nat}{σ:St}{k:AV→St→Prop},callT G Cr [.lst (ws.map eW),.lst ((w.map I++[I (X.length:Int)]).map frz),Bo wh] fr roots b ss σ k=k (Bo (begB ws (w++[(X.length:Int)]) wh)) σ:=by
         have e:(w.map I++[I (X.length:Int)]).map frz=(w++[(X.length:Int)]).map I:=by rw [List.map_append,K0,List.map_append];rfl
         rw [e];exact @hB
        clear hB;have hcl:=Xq (ws:=ws) (w:=w) X.length;have h2p:2 ^ X.length≤2 ^ 8:=Nat.pow_le_pow_right (by omega) (by omega);have w0:=Ab hlt3 (show acts.length≤1000000000 by omega);have hsh:=Pe (show X.length≤62 by omega);have hor:=L5 (show Nj ws w X.length<2 ^ 63 by omega) (show 2 ^ X.length<2 ^ 63 by omega);rcases Bool.eq_false_or_eq_true (begB ws (w++[(X.length:Int)]) true) with hbt|hbt
        ·simp only [go_sem,↓reduceIte,↓Aa,Int.ofNat_lt,hlt3,hlt',hgw,cW,Md,hB2,hbt,w0];refine ⟨by omega,by omega,by omega,hN2 (st',X++[-1]) _ (by simp only [List.length_append,List.length_singleton];omega) ⟨by simp only [List.length_append,List.length_singleton];omega,by simp only [List.length_append,List.length_singleton];exact hX.bad hbt,?_⟩⟩;simp only [go_sem,↓reduceIte,↓Aa];rw [Bt rfl (by decide)];simp only [go_sem,↓reduceIte,↓Aa,List.map_append,List.length_append,List.length_singleton,Aft hbt];repeat apply Exists.intro
         rfl
        ·rcases Bool.eq_false_or_eq_true (begB ws (w++[(X.length:Int)]) false) with hbf|hbf
         ·simp only [go_sem,↓reduceIte,↓Aa,Int.ofNat_lt,hlt3,hlt',hgw,cW,Md,hB2,hbt,hbf,w0,hsh,hor];refine ⟨by omega,by omega,by omega,⟨by omega,rfl⟩,hN2 (st'++[w++[(X.length:Int)]],X++[(st'.length:Int)]) _ (by simp only [List.length_append,List.length_singleton];omega) ⟨by simp only [List.length_append,List.length_singleton];omega,by simp only [List.length_append,List.length_singleton];exact hX.more hbt hbf,?_⟩⟩;simp only [go_sem,↓reduceIte,↓Aa];rw [Mu (r:=18) rfl rfl rfl (by decide) (by simp) (by decide)];simp only [go_sem,↓reduceIte,↓Aa,List.map_append,List.map_cons,List.map_nil,List.length_append,List.length_singleton,V6 hbt,Ais];repeat apply Exists.intro
          rfl
         ·simp only [go_sem,↓reduceIte,↓Aa,Int.ofNat_lt,hlt3,hlt',hgw,cW,Md,hB2,hbt,hbf,w0,hsh,hor];refine ⟨by omega,by omega,by omega,hN2 (st',X++[1]) _ (by simp only [List.length_append,List.length_singleton];omega) ⟨by simp only [List.length_append,List.length_singleton];omega,by simp only [List.length_append,List.length_singleton];exact hX.free hbt hbf,?_⟩⟩;simp only [go_sem,↓reduceIte,↓Aa];rw [Bt rfl (by decide)];simp only [go_sem,↓reduceIte,↓Aa,List.map_append,List.length_append,List.length_singleton,V6 hbt];repeat apply Exists.intro
          rfl
       ·have hXl:X.length=acts.length:=by omega
        subst hQ2;have hcl:=Xq (ws:=ws) (w:=w) acts.length;have h2p:2 ^ acts.length≤2 ^ 8:=Nat.pow_le_pow_right (by omega) ha;simp only [go_sem,↓reduceIte,↓Aa,Int.ofNat_lt,hlt3,JR];rw [hXl];refine Ad (fun (j:Nat) σ=>j≤2 ^ acts.length∧∃z9 a21 c21 a22 c22,σ=⟨aT .undef 122 [(0,.lst (acts.map .str)),(1,.lst (ws.map eW)),(4,.ptr 0 1 [] 0 0 0),(5,.pfro [.lst ((upI (2 ^ acts.length)).map I),.lst ((List.replicate acts.length 1).map I)]),(7,.sl 4 s4 [] 0 0 st'.length),(8,.ptr 6 1 [] 0 0 0),(9,I outs.length),(10,.ptr 9 (a9+1) [] 0 0 0),(11,I (Nj ws w acts.length:Nat)),(97,.lst ((upI (2 ^ acts.length)).map I)),(98,I ((2 ^ acts.length:Nat):Int)),(99,I j)],[⟨1,0,.own 2 [.agg [.nils,.nils]]⟩,ob1,ob2,⟨a3,c3,.gone⟩,⟨s4,t4,.own 1 (st'.map cW)⟩,⟨a5,c5,.gone⟩,⟨1,z6,.own 2 [.agg [cellv .nils 1 (acts.map .str),cellv .nils 2 es]]⟩,⟨a7,c7,.gone⟩,⟨a8,c8,.gone⟩,⟨a9+1,z9,.own 2 [.agg [cellv .nils 1 ((((upI (2 ^ acts.length)).take j).filter fun v=>decide (v.toNat&&&Nj ws w acts.length=v.toNat)).map I),cellv .nils 1 (X.map I)]]⟩,⟨a10,c10,.gone⟩,⟨a11,c11,.gone⟩,⟨a12,c12,.gone⟩,⟨a13,c13,.gone⟩,⟨a14,c14,.gone⟩,⟨a15,c15,.gone⟩,⟨a16,c16,.gone⟩,⟨a17,c17,.gone⟩,⟨a18,c18,.gone⟩,⟨a19,c19,.gone⟩,⟨a20,c20,.gone⟩,⟨a21,c21,.gone⟩,⟨a22,c22,.gone⟩,⟨a23,c23,.gone⟩,⟨a24,c24,.gone⟩],[]⟩) (fun j=>2 ^ acts.length-j) ?_ 0 ?_
        ·rintro j σ ⟨hj,z9,a21,c21,a22,c22,rfl⟩ N3 Q3 hQ3 hN3;by_cases hlt4:j<2 ^ acts.length
         ·have hfl2:(((upI (2 ^ acts.length)).take j).filter fun v=>decide (v.toNat&&&Nj ws w acts.length=v.toNat)).length≤j:=Nat.le_trans (List.length_filter_le _ _) (by rw [List.length_take];omega);have htk:((upI (2 ^ acts.length)).take (j+1)).filter (fun v=>decide (v.toNat&&&Nj ws w acts.length=v.toNat))=((upI (2 ^ acts.length)).take j).filter (fun v=>decide (v.toNat&&&Nj ws w acts.length=v.toNat))++if j&&&Nj ws w acts.length=j then [(j:Int)] else []:=by
           rw [List.take_succ_eq_append_getElem (by rw [JR];exact hlt4),List.filter_append,←getElem!_pos (upI (2 ^ acts.length)) j (by rw [JR];exact hlt4),Nz hlt4];by_cases hm:j&&&Nj ws w acts.length=j<;>simp [hm]
          have hand:=SB (show j<2 ^ 63 by omega) (show Nj ws w acts.length<2 ^ 63 by omega);by_cases hm:j&&&Nj ws w acts.length=j
          ·have hmb:(((j&&&Nj ws w acts.length:Nat):Int)==(j:Int))=true:=by rw [beq_iff_eq,hm]
           simp only [go_sem,↓reduceIte,↓Aa,Int.ofNat_lt,hlt4,Ab hlt4 (by omega),JR,Nz hlt4,hand,hmb];refine ⟨by omega,hN3 (j+1) _ (by omega) ⟨by omega,?_⟩⟩;simp only [go_sem,↓reduceIte,↓Aa,htk,hm,if_true,List.map_append];repeat apply Exists.intro
           rfl
          ·have hmb:(((j&&&Nj ws w acts.length:Nat):Int)==(j:Int))=false:=by rw [beq_eq_false_iff_ne];intro e;exact hm (by omega)
           simp only [go_sem,↓reduceIte,↓Aa,Int.ofNat_lt,hlt4,Ab hlt4 (by omega),JR,Nz hlt4,hand,hmb];refine hN3 (j+1) _ (by omega) ⟨by omega,?_⟩;simp only [go_sem,↓reduceIte,↓Aa,htk,hm,if_false,List.append_nil];repeat apply Exists.intro
           rfl
         ·have hjl:j=2 ^ acts.length:=by omega
          subst hjl hQ3;have htl:(upI (2 ^ acts.length)).take (2 ^ acts.length)=upI (2 ^ acts.length):=List.take_of_length_le (by rw [JR];omega);simp only [go_sem,↓reduceIte,↓Aa,Int.ofNat_lt,hlt4,htl,Ab hlt2 (show st.length≤1000000000 by omega)];have hel:es.length=outs.length:=by have:=congrArg List.length hes;simpa using this
          refine ⟨by omega,hN (st',outs++[⟨acW acts.length ws w,X⟩]) _ (by simp only [List.length_append,List.length_singleton];omega) ⟨by simp only [List.length_append,List.length_singleton];exact hnext (by rw [←hXl];exact hX),es++[.agg [cellv .nils 1 ((acW acts.length ws w).map I),cellv .nils 1 (X.map I)]],?_⟩⟩;simp only [go_sem,↓reduceIte,↓Aa];rw [Bt rfl (by decide)];simp only [go_sem,↓reduceIte,↓Aa,List.map_append,List.length_append,List.length_singleton];repeat apply Exists.intro
          refine ⟨?_,rfl⟩;rw [hes];simp only [go_sem,↓reduceIte,↓Aa,eSt,K0,List.map_cons,List.map_nil]
        ·refine ⟨by omega,?_⟩;simp only [go_sem,↓reduceIte,↓Aa,List.take_zero,List.filter_nil,List.map_nil];repeat apply Exists.intro
         rfl
      ·refine ⟨by simp,WX.start hI.two,?_⟩;simp only [go_sem,↓reduceIte,↓Aa];rw [Bt rfl (by decide)];simp only [go_sem,↓reduceIte,↓Aa,Nj];repeat apply Exists.intro
       rfl
    ·subst hQ;simp only [go_sem,↓reduceIte,↓Aa,Int.ofNat_lt,hlt2];have hI2:WI acts.length ws st.length st outs:=by rw [show st.length=outs.length by omega];exact hI
     exact ⟨st,outs,hI2,by rw [hes];rfl⟩
   ·refine ⟨WI.start,?_⟩;simp only [go_sem,↓reduceIte,↓Aa];rw [Bt rfl (by decide)];refine ⟨[],?_⟩;simp only [go_sem,↓reduceIte,↓Aa];repeat apply Exists.intro
    rfl
 ·refine ⟨by omega,?_⟩;have e0:List.replicate acts.length (I 0)=(OW acts.length 0).map I:=by simp [OW]
  simp only [go_sem,↓reduceIte,↓Aa,e0];repeat apply Exists.intro
  rfl
theorem getSetG {α:Type}[Inhabited α]{l:List α}{k i:Nat}{v:α}(hk:k<l.length):(l.set k v)[i]! = if k=i then v else l[i]!:=by
 by_cases h:i<l.length
 ·rw [getElem!_pos (l.set k v) i (by rw [List.length_set];exact h),List.getElem_set];split
  ·rfl
  ·rw [getElem!_pos l i h]
 ·rw [if_neg (by omega),List.getElem!_eq_getElem?_getD,List.getElem!_eq_getElem?_getD,List.getElem?_eq_none (by rw [List.length_set];omega),List.getElem?_eq_none (by omega)]
structure TI (n:Nat)(seen:List (List Int))(cur:List Int)(wd nx:List (List Int))(en:List Bool):Prop where
 l1:nx.length=wd.length
 l2:en.length=wd.length
 z:wd[0]? = some []
 row:∀u<wd.length,nx[u]!.length=n
 nd:∀u<wd.length,∀v<wd.length,wd[u]! = wd[v]!→u=v
 e1:∀u<wd.length,∀a<n,0≤nx[u]![a]!→nx[u]![a]!.toNat<wd.length∧wd[nx[u]![a]!.toNat]! = wd[u]!++[(a:Int)]
 e2:∀u<wd.length,∀a<n,nx[u]![a]! < 0→nx[u]![a]! = -1∧∀v<wd.length,wd[v]!≠wd[u]!++[(a:Int)]
 mem:∀p,(∃u,u<wd.length∧wd[u]! = p)↔((∃v∈seen,p <+: v)∨p <+: cur)
 en1:∀u<wd.length,en[u]! = true↔wd[u]!∈seen
 cnt:wd.length≤sumW seen+cur.length+1
theorem TI.start {n:Nat}:TI n [] [] [[]] [List.replicate n (-1)] [false]:=by
 have hz:∀u,u<([[]]:List (List Int)).length→u=0:=fun u h=>by simp at h;omega
 have hr:∀a<n,(List.replicate n (-1:Int))[a]! = -1:=fun a ha=>by rw [getElem!_pos _ a (by simpa using ha)];simp
 refine ⟨rfl,rfl,rfl,fun u hu=>?_,fun u hu v hv _=>by rw [hz u hu,hz v hv],fun u hu a ha h=>?_,fun u hu a ha h=>?_,fun p=>?_,fun u hu=>?_,by simp⟩
 ·rw [hz u hu];simp
 ·rw [hz u hu] at h;simp only [List.getElem!_cons_zero,hr a ha] at h;omega
 ·rw [hz u hu];simp only [List.getElem!_cons_zero,hr a ha,true_and];intro v hv;rw [hz v hv];simp
 ·constructor
  ·rintro ⟨u,hu,rfl⟩;rw [hz u hu];exact .inr (List.prefix_refl _)
  ·rintro (⟨v,hv,_⟩|h)
   ·cases hv
   ·exact ⟨0,by simp,(List.prefix_nil.1 h).symm⟩
 ·rw [hz u hu];simp
section
variable {n:Nat}{seen wd nx:List (List Int)}{cur:List Int}{en:List Bool}{x a:Nat}
theorem TI.pos (h:TI n seen cur wd nx en):0<wd.length:=List.lt_of_some h.z
theorem TI.zero (h:TI n seen cur wd nx en):wd[0]! = []:=by rw [List.getElem!_eq_getElem?_getD,h.z];rfl
theorem TI.old (h:TI n seen cur wd nx en)(hx:x<wd.length)(hw:wd[x]! = cur)(ha:a<n)(h0:0≤nx[x]![a]!):TI n seen (cur++[(a:Int)]) wd nx en∧nx[x]![a]!.toNat<wd.length∧wd[nx[x]![a]!.toNat]! = cur++[(a:Int)]:=by
 obtain ⟨g1,g2⟩:=h.e1 x hx a ha h0;rw [hw] at g2;refine ⟨⟨h.l1,h.l2,h.z,h.row,h.nd,h.e1,h.e2,fun p=>?_,h.en1,by have:=h.cnt;simp only [List.length_append,List.length_singleton];omega⟩,g1,g2⟩;rw [h.mem p,List.prefix_concat_iff];constructor
 ·rintro (h1|h1)
  ·exact .inl h1
  ·exact .inr (.inr h1)
 ·rintro (h1|h1|h1)
  ·exact .inl h1
  ·rw [h1];exact (h.mem _).1 ⟨_,g1,g2⟩
  ·exact .inr h1
theorem TI.new (h:TI n seen cur wd nx en)(hx:x<wd.length)(hw:wd[x]! = cur)(ha:a<n)(h0:nx[x]![a]! < 0) :
 TI n seen (cur++[(a:Int)]) (wd++[cur++[(a:Int)]]) ((nx.set x (nx[x]!.set a (wd.length:Int)))++[List.replicate n (-1)]) (en++[false]):=by
 obtain ⟨g1,g2⟩:=h.e2 x hx a ha h0;rw [hw] at g2;have hl1:=h.l1;have hl2:=h.l2;have hrx:=h.row x hx;have hls:(nx.set x (nx[x]!.set a (wd.length:Int))).length=wd.length:=by rw [List.length_set];exact hl1
 have hwd:∀u,(wd++[cur++[(a:Int)]])[u]! = if u=wd.length then cur++[(a:Int)] else wd[u]!:=fun u=>B1;have hnx:∀u,((nx.set x (nx[x]!.set a (wd.length:Int)))++[List.replicate n (-1)])[u]! = if u=wd.length then List.replicate n (-1) else if x=u then nx[x]!.set a (wd.length:Int) else nx[u]!:=fun u=>by
  rw [B1,hls,getSetG (by omega)]
 have hlen:(wd++[cur++[(a:Int)]]).length=wd.length+1:=by simp
 have hrep:∀b<n,(List.replicate n (-1:Int))[b]! = -1:=fun b hb=>by rw [getElem!_pos _ b (by simpa using hb)];simp
 have hset:∀b,(nx[x]!.set a (wd.length:Int))[b]! = if a=b then (wd.length:Int) else nx[x]![b]!:=fun b=>getSetG (by omega);refine ⟨by rw [List.length_append,hls,hlen];rfl,by rw [List.length_append,hlen,hl2];rfl,?_,fun u hu=>?_,fun u hu v hv he=>?_,fun u hu b hb hh=>?_,fun u hu b hb hh=>?_,fun p=>?_,fun u hu=>?_,?_⟩
 ·rw [List.getElem?_append_left h.pos];exact h.z
 ·rw [hlen] at hu;rw [hnx];split
  ·simp
  ·split
   ·rw [List.length_set];exact hrx
   ·exact h.row u (by omega)
 ·rw [hlen] at hu hv;rw [hwd,hwd] at he;split at he
  ·split at he
   ·omega
   ·exact absurd he.symm (g2 v (by omega))
  ·split at he
   ·exact absurd he (g2 u (by omega))
   ·exact h.nd u (by omega) v (by omega) he
 ·rw [hlen] at hu ⊢;rw [hnx] at hh ⊢;rw [hwd u];split at hh
  ·rw [hrep b hb] at hh;omega
  ·rename_i hu2;rw [if_neg hu2,if_neg hu2];split at hh
   ·rename_i hxu;subst hxu;rw [if_pos rfl,hset];rw [hset] at hh;split at hh
    ·rename_i hab;subst hab;rw [if_pos rfl,Int.toNat_natCast,hwd,if_pos rfl,hw];exact ⟨by omega,rfl⟩
    ·rename_i hab;rw [if_neg hab];obtain ⟨f1,f2⟩:=h.e1 x hx b hb hh;rw [hwd,if_neg (by omega)];exact ⟨by omega,f2⟩
   ·rename_i hxu;rw [if_neg hxu];obtain ⟨f1,f2⟩:=h.e1 u (by omega) b hb hh;rw [hwd,if_neg (by omega)];exact ⟨by omega,f2⟩
 ·rw [hlen] at hu ⊢;rw [hnx] at hh ⊢;rw [hwd u];split at hh
  ·rename_i hu2;rw [if_pos hu2,if_pos hu2,hrep b hb];refine ⟨rfl,fun v hv=>?_⟩;rw [hwd];split
   ·intro e;have:=congrArg List.length e;simp at this
   ·rename_i hv2;intro e;obtain h1|h1:=(h.mem wd[v]!).1 ⟨v,by omega,rfl⟩
    ·obtain ⟨w,hw1,hw2⟩:=h1;obtain ⟨y,hy,e2⟩:=(h.mem (cur++[(a:Int)])).2 (.inl ⟨w,hw1,(List.prefix_append _ [(b:Int)]).trans (by rw [←e];exact hw2)⟩);exact g2 y hy e2
    ·have:=h1.length_le;rw [e] at this;simp only [List.length_append,List.length_singleton] at this;omega
  ·rename_i hu2;rw [if_neg hu2,if_neg hu2];split at hh
   ·rename_i hxu;subst hxu;rw [if_pos rfl];rw [hset] at hh ⊢;split at hh
    ·omega
    ·rename_i hab;rw [if_neg hab];obtain ⟨f1,f2⟩:=h.e2 x hx b hb hh;refine ⟨f1,fun v hv=>?_⟩;rw [hwd];split
     ·rw [hw];intro e;have:=List.append_cancel_left e;simp at this;omega
     ·exact f2 v (by omega)
   ·rename_i hxu;rw [if_neg hxu];obtain ⟨f1,f2⟩:=h.e2 u (by omega) b hb hh;refine ⟨f1,fun v hv=>?_⟩;rw [hwd];split
    ·intro e;have e2:wd[u]! = cur:=by
      have:=congrArg List.dropLast e;simpa using this.symm
     exact hxu (h.nd x hx u (by omega) (by rw [hw,e2]))
    ·exact f2 v (by omega)
 ·rw [List.prefix_concat_iff,or_left_comm,←h.mem p,hlen];constructor
  ·rintro ⟨u,hu,e⟩;rw [hwd] at e;split at e
   ·exact .inl e.symm
   ·exact .inr ⟨u,by omega,e⟩
  ·rintro (e|⟨u,hu,e⟩)
   ·exact ⟨wd.length,by omega,by rw [hwd,if_pos rfl];exact e.symm⟩
   ·exact ⟨u,by omega,by rw [hwd,if_neg (by omega)];exact e⟩
 ·rw [hlen] at hu;rw [hwd,B1,hl2];split
  ·rename_i hu2;constructor
   ·intro h;cases h
   ·intro hm;obtain ⟨y,hy,e⟩:=(h.mem (cur++[(a:Int)])).2 (.inl ⟨_,hm,List.prefix_refl _⟩);exact absurd e (g2 y hy)
  ·exact h.en1 u (by omega)
 ·have:=h.cnt;rw [hlen];simp only [List.length_append,List.length_singleton];omega
theorem TI.fin (h:TI n seen cur wd nx en)(hx:x<wd.length)(hw:wd[x]! = cur):TI n (seen++[cur]) [] wd nx (en.set x true):=by
 have hl2:=h.l2;refine ⟨h.l1,by rw [List.length_set];exact hl2,h.z,h.row,h.nd,h.e1,h.e2,fun p=>?_,fun u hu=>?_,?_⟩
 ·rw [h.mem p];constructor
  ·rintro (⟨v,h1,h2⟩|h1)
   ·exact .inl ⟨v,List.mem_append_left _ h1,h2⟩
   ·exact .inl ⟨cur,by simp,h1⟩
  ·rintro (⟨v,h1,h2⟩|h1)
   ·rcases List.mem_append.1 h1 with h3|h3
    ·exact .inl ⟨v,h3,h2⟩
    ·rw [List.mem_singleton] at h3;subst h3;exact .inr h2
   ·exact .inr (by rw [List.prefix_nil.1 h1];exact List.nil_prefix)
 ·rw [getSetG (by omega),List.mem_append,List.mem_singleton];split
  ·rename_i e;subst e;simp [hw]
  ·rename_i e;rw [h.en1 u hu];constructor
   ·exact .inl
   ·rintro (h1|h1)
    ·exact h1
    ·exact absurd (h.nd x hx u hu (by rw [hw,h1])) e
 ·have:=h.cnt;unfold sumW at this ⊢;simp only [List.map_append,List.sum_append,List.map_cons,List.map_nil,List.sum_cons,List.sum_nil,List.length_nil];omega
end
end Go.Mw
