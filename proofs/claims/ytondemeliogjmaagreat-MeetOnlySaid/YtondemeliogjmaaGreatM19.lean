/- Small things for the walks. -/
import Derived.Test.YtondemeliogjmaaGreatM18
import Derived.IntWalk
set_option linter.unusedVariables false
set_option linter.unusedSimpArgs false
namespace Go.Mw
abbrev I (n:Int):AV:=.int .i64 n
abbrev Bo (b:Bool):AV:=.bool b
theorem L7 {x:Int}(h1 : -9223372036854775808≤x)(h2:x≤9223372036854775807):IntKind.i64.wrap x=x:=IntWalk.i64_in x ⟨h1,h2⟩
theorem Ab {i n:Nat}(h:i<n)(hn:n≤1000000000):IntKind.i64.wrap ((i:Int)+1)=((i+1:Nat):Int):=by rw [L7]<;>omega
def Tb (N:St→Prop)(Q:Ex→St→Prop)(e:Ex)(σ:St):Prop :=
 match e with
 | .nrm=>N σ
 | e=>Q e σ
theorem Abc {N:St→Prop}{Q:Ex→St→Prop}{σ:St}:Tb N Q .nrm σ=N σ:=(rfl)
theorem Zp {N:St→Prop}{Q:Ex→St→Prop}{σ:St}{i:Nat}:Tb N Q (.ext i) σ=Q (.ext i) σ:=(rfl)
theorem ZQ {N:St→Prop}{Q:Ex→St→Prop}{σ:St}:Tb N Q .ret σ=Q .ret σ:=(rfl)
attribute [go_sem] Abc Zp ZQ
theorem Ad {kt ks:List Nat}{c:C}{b:Nat}{Q:Ex→St→Prop}{α:Type}(I:α→St→Prop)(μ:α→Nat)
 (step:∀(x:α) (σ:St),I x σ→∀(N:St→Prop) (Q':Ex→St→Prop),Q'=Q→(∀y σ1,μ y<μ x→I y (NA kt ks b σ1)→N σ1)→Wp G c b σ (Tb N Q'))
 {σ:St}(x:α) (h:I x (NA kt ks b σ)):Wp G (.loop kt ks c) b σ Q:=by
 refine AhZ I μ (fun x σ hI=>?_) x h;refine (step x σ hI (fun σ1=>∃y,μ y<μ x∧I y (NA kt ks b σ1)) Q rfl (fun y σ1 h1 h2=>⟨y,h1,h2⟩)).mono (fun e σ1 h1=>?_);cases e<;>exact h1
def isLet (c:Int):Bool:=(97≤c&&c≤122)||(65≤c&&c≤90)
theorem AdR (c:Int):FnT G CZ [.int .u8 c] (Bo (isLet c)):=by
 refine FnP.mk' UM rfl rfl ?_;simp only [go_sem,↓reduceIte,↓Aa,Og]
 grind [isLet]
theorem letter_okR (c:Int):FnT G CS [.int .u8 c] (Bo (isLet c)):=by
 refine FnP.mk' VU rfl rfl ?_;simp only [go_sem,↓reduceIte,↓Aa,Ot]
 grind [isLet]
section
variable {fr:Bool}{roots:List Nat}{b:Nat}{ss:List Nat}{σ:St}{k:AV→St→Prop}
theorem letter_r {c:Int}:callT G CZ [.int .u8 c] fr roots b ss σ k=k (Bo (isLet c)) σ:=(AdR c).rule
theorem letter_rR {c:Int}:callT G CS [.int .u8 c] fr roots b ss σ k=k (Bo (isLet c)) σ:=(letter_okR c).rule
attribute [go_sem] letter_r letter_rR
end
def ltr2 (c:Int):Bool:=isLet c||(48≤c&&c≤57)||c==45||c==95
def OX (l:List UInt8):Bool:=decide (0<l.length∧l.length≤20∧isLet (l[0]!).toNat=true∧∀i<l.length,ltr2 (l[i]!).toNat=true)
def LV (s:ByteArray):Bool:=OX s.data.toList
theorem AgS (s:ByteArray):s.size=s.data.toList.length:=by have:s.data.size=s.size:=rfl;simp
theorem AgT (s:ByteArray):s = { data := #[] }↔s.data.toList = []:=by
 constructor
 ·rintro rfl;rfl
 ·intro h;apply ByteArray.ext;apply Array.ext';exact h
theorem Pu {l:List UInt8}{i:Nat}(hi:i<l.length)(h:ltr2 (l[i]!).toNat=false):AV.bool false=Bo (OX l):=by
 have:OX l=false:=by
  unfold OX;rw [decide_eq_false_iff_not];rintro ⟨_,_,_,h4⟩;rw [h4 i hi] at h;cases h
 rw [this]
theorem name_ok (s:ByteArray):FnT G HB [.str s] (Bo (LV s)):=by
 refine FnP.mk' AaK rfl rfl ?_;simp only [go_sem,↓reduceIte,↓Aa,Sn];simp only [AgS,AgT,LV];generalize hl:s.data.toList=l;refine ⟨fun h0=>⟨fun h20=>⟨?_,fun hf=>?_,fun ht=>?_⟩,fun h20=>?_⟩,fun h0=>?_⟩
 ·cases l<;>simp_all
 ·grind [OX]
 ·refine Ad (fun (i:Nat) σ=>i≤l.length∧(∀j<i,ltr2 (l[j]!).toNat=true)∧σ=⟨aT .undef 46 [(0,.str s),(19,I l.length),(20,I i)],[],[]⟩) (fun i=>l.length-i) ?_ 0 ?_
  ·rintro i σ ⟨hi,hall,rfl⟩ N Q hQ hN;by_cases hlt:i<l.length
   ·simp only [go_sem,↓reduceIte,↓Aa,hl,Ab hlt (by omega),Int.ofNat_lt,hlt];have hn:ltr2 (l[i]!).toNat=true→∀j<i+1,ltr2 (l[j]!).toNat=true:=fun hc j hj=>by
     rcases Nat.lt_or_eq_of_le (Nat.le_of_lt_succ hj) with h|rfl
     ·exact hall j h
     ·exact hc
    have hb:=fun h=>Pu (l:=l) hlt h
    (repeat' (first|intro _|refine And.intro ?_ ?_))<;>first
      | (refine hN (i+1) _ (by omega) ⟨by omega,hn (by grind [ltr2]),?_⟩;simp only [go_sem,↓reduceIte,↓Aa];done)
      | (subst hQ;simp only [go_sem,↓reduceIte,↓Aa];exact hb (by grind [ltr2]))
   ·simp only [go_sem,↓reduceIte,↓Aa,hl,Int.ofNat_lt,hlt];have:i=l.length:=by omega
    subst this;subst hQ;simp only [go_sem,↓reduceIte,↓Aa]
    grind [OX]
  ·exact ⟨by omega,by simp,by simp only [go_sem,↓reduceIte,↓Aa]⟩
 ·simp [OX];omega
 ·simp [OX,h0]
theorem AfI (s:ByteArray):FnT G HC [.str s] (Bo (LV s)):=by
 refine FnP.mk' Zg rfl rfl ?_;simp only [go_sem,↓reduceIte,↓Aa,R8];simp only [AgS,AgT,LV];generalize hl:s.data.toList=l;refine ⟨fun h0=>⟨fun h20=>⟨?_,fun hf=>?_,fun ht=>?_⟩,fun h20=>?_⟩,fun h0=>?_⟩
 ·omega
 ·grind [OX]
 ·refine Ad (fun (i:Nat) σ=>i≤l.length∧(∀j<i,ltr2 (l[j]!).toNat=true)∧σ=⟨aT .undef 47 [(0,.str s),(20,I l.length),(21,I i)],[],[]⟩) (fun i=>l.length-i) ?_ 0 ?_
  ·rintro i σ ⟨hi,hall,rfl⟩ N Q hQ hN;by_cases hlt:i<l.length
   ·simp only [go_sem,↓reduceIte,↓Aa,hl,Ab hlt (by omega),Int.ofNat_lt,hlt];have hn:ltr2 (l[i]!).toNat=true→∀j<i+1,ltr2 (l[j]!).toNat=true:=fun hc j hj=>by
     rcases Nat.lt_or_eq_of_le (Nat.le_of_lt_succ hj) with h|rfl
     ·exact hall j h
     ·exact hc
    have hb:=fun h=>Pu (l:=l) hlt h
    (repeat' (first|intro _|refine And.intro ?_ ?_))<;>first
      | (refine hN (i+1) _ (by omega) ⟨by omega,hn (by grind [ltr2]),?_⟩;simp only [go_sem,↓reduceIte,↓Aa];done)
      | (subst hQ;simp only [go_sem,↓reduceIte,↓Aa];exact hb (by grind [ltr2]))
   ·simp only [go_sem,↓reduceIte,↓Aa,hl,Int.ofNat_lt,hlt];have:i=l.length:=by omega
    subst this;subst hQ;simp only [go_sem,↓reduceIte,↓Aa]
    grind [OX]
  ·exact ⟨by omega,by simp,by simp only [go_sem,↓reduceIte,↓Aa]⟩
 ·simp [OX];omega
 ·grind [OX]
section
variable {fr:Bool}{roots:List Nat}{b:Nat}{ss:List Nat}{σ:St}{k:AV→St→Prop}
theorem Ajl {s:ByteArray}:callT G HB [.str s] fr roots b ss σ k=k (Bo (LV s)) σ:=(name_ok s).rule
theorem Aib {s:ByteArray}:callT G HC [.str s] fr roots b ss σ k=k (Bo (LV s)) σ:=(AfI s).rule
attribute [go_sem] Ajl Aib
end
end Go.Mw
namespace Go.Mw
def WS (l:List ByteArray)(s:ByteArray):Int:=match l.findIdx? (fun x=>decide (x=s)) with|some i=>i|none => -1
theorem Aeh {l:List ByteArray}{s:ByteArray}{i:Nat}(hi:i<l.length)(hn:∀j<i,l[j]!≠s)(he:l[i]! = s):(i:Int)=WS l s:=by
 have:l.findIdx? (fun x=>decide (x=s))=some i:=by
  rw [List.findIdx?_eq_some_iff_getElem];refine ⟨hi,?_,fun j hj=>?_⟩
  ·rw [←he,getElem!_pos l i hi];simp
  ·have:=hn j hj;rw [getElem!_pos l j (by omega)] at this;simpa using this
 unfold WS;rw [this]
theorem UU {l:List ByteArray}{s:ByteArray}(hn:∀j<l.length,l[j]!≠s) : -1=WS l s:=by
 have:l.findIdx? (fun x=>decide (x=s))=none:=by
  rw [List.findIdx?_eq_none_iff];intro x hx;obtain ⟨i,hi,rfl⟩:=List.mem_iff_getElem.1 hx;have:=hn i hi;rw [getElem!_pos l i hi] at this;simpa using this
 unfold WS;rw [this]
theorem idxS_cases (l:List ByteArray)(s:ByteArray):(∃i:Nat,i<l.length∧l[i]! = s∧(∀j<i,l[j]!≠s)∧WS l s=i)∨((∀j<l.length,l[j]!≠s)∧WS l s=-1):=by
 cases h:l.findIdx? (fun x=>decide (x=s)) with
 | some i =>
   left;have h0:=h;rw [List.findIdx?_eq_some_iff_getElem] at h;obtain ⟨hi,h1,h2⟩:=h;refine ⟨i,hi,by rw [getElem!_pos l i hi];simpa using h1,fun j hj=>?_,by unfold WS;rw [h0]⟩;rw [getElem!_pos l j (by omega)];simpa using h2 j hj
 | none =>
   right;have h0:=h;rw [List.findIdx?_eq_none_iff] at h;refine ⟨fun j hj e=>?_,by unfold WS;rw [h0]⟩;have:=h _ (List.getElem_mem hj);rw [getElem!_pos l j hj] at e;simp [e] at this
theorem Agt (l:List ByteArray)(s:ByteArray)(hl:l.length≤1048576):FnT G Bs [.lst (l.map .str),.str s] (I (WS l s)):=by
 refine FnP.mk' Mk rfl rfl ?_;simp only [go_sem,↓reduceIte,↓Aa,H1];refine Ad (fun (i:Nat) σ=>i≤l.length∧(∀j<i,l[j]!≠s)∧σ=⟨aT .undef 19 [(0,.lst (l.map .str)),(1,.str s),(7,I l.length),(8,I i)],[],[]⟩) (fun i=>l.length-i) ?_ 0 ?_
 ·rintro i σ ⟨hi,hall,rfl⟩ N Q hQ hN;by_cases hlt:i<l.length
  ·simp only [go_sem,↓reduceIte,↓Aa,Ab hlt (by omega),Int.ofNat_lt,hlt];refine ⟨fun h=>?_,fun h=>?_⟩
   ·subst hQ;simp only [go_sem,↓reduceIte,↓Aa];rw [Aeh hlt hall h.symm]
   ·refine hN (i+1) _ (by omega) ⟨by omega,fun j hj=>?_,by simp only [go_sem,↓reduceIte,↓Aa]⟩;rcases Nat.lt_or_eq_of_le (Nat.le_of_lt_succ hj) with h1|rfl
    ·exact hall j h1
    ·exact fun e=>h e.symm
  ·have:i=l.length:=by omega
   subst this hQ;simp only [go_sem,↓reduceIte,↓Aa,Int.ofNat_lt,hlt];rw [UU hall]
 ·exact ⟨by omega,by simp,by simp only [go_sem,↓reduceIte,↓Aa]⟩
theorem AbM (l:List ByteArray)(s:ByteArray)(hl:l.length≤1048576):FnT G Fh [.lst (l.map .str),.str s] (I (WS l s)):=by
 refine FnP.mk' XF rfl rfl ?_;simp only [go_sem,↓reduceIte,↓Aa,QM];refine Ad (fun (i:Nat) σ=>i≤l.length∧(∀j<i,l[j]!≠s)∧σ=⟨aT .undef 19 [(1,.str s),(7,.lst (l.map .str)),(8,I l.length),(9,I i)],[],[]⟩) (fun i=>l.length-i) ?_ 0 ?_
 ·rintro i σ ⟨hi,hall,rfl⟩ N Q hQ hN;by_cases hlt:i<l.length
  ·simp only [go_sem,↓reduceIte,↓Aa,Ab hlt (by omega),Int.ofNat_lt,hlt];refine ⟨fun h=>?_,fun h=>?_⟩
   ·subst hQ;simp only [go_sem,↓reduceIte,↓Aa];rw [Aeh hlt hall h]
   ·refine hN (i+1) _ (by omega) ⟨by omega,fun j hj=>?_,by simp only [go_sem,↓reduceIte,↓Aa]⟩;rcases Nat.lt_or_eq_of_le (Nat.le_of_lt_succ hj) with h1|rfl
    ·exact hall j h1
    ·exact h
  ·have:i=l.length:=by omega
   subst this hQ;simp only [go_sem,↓reduceIte,↓Aa,Int.ofNat_lt,hlt];rw [UU hall]
 ·exact ⟨by omega,by simp,by simp only [go_sem,↓reduceIte,↓Aa]⟩
section
variable {fr:Bool}{roots:List Nat}{b:Nat}{ss:List Nat}{σ:St}{k:AV→St→Prop}
theorem AhQ {l:List ByteArray}{s:ByteArray}(hl:l.length≤1048576):callT G Bs [.lst (l.map .str),.str s] fr roots b ss σ k=k (I (WS l s)) σ:=(Agt l s hl).rule
theorem AfV {l:List ByteArray}{s:ByteArray}(hl:l.length≤1048576):callT G Fh [.lst (l.map .str),.str s] fr roots b ss σ k=k (I (WS l s)) σ:=(AbM l s hl).rule
end
theorem XZ (l:List ByteArray)(s:ByteArray)(hl:l.length≤1048576):FnT G AY [.lst (l.map .str),.str s] (Bo (decide (0≤WS l s))):=by
 refine FnP.mk' KH rfl rfl ?_;simp only [go_sem,↓reduceIte,↓Aa,E0,AhQ hl]
section
variable {fr:Bool}{roots:List Nat}{b:Nat}{ss:List Nat}{σ:St}{k:AV→St→Prop}
theorem R6 {l:List ByteArray}{s:ByteArray}(hl:l.length≤1048576):callT G AY [.lst (l.map .str),.str s] fr roots b ss σ k=k (Bo (decide (0≤WS l s))) σ:=(XZ l s hl).rule
end
def actsOk (l:List ByteArray):Bool:=decide (l.length≤8∧∀i<l.length,LV l[i]! = true∧∀j<i,l[j]!≠l[i]!)
theorem Jp {l:List ByteArray}{i:Nat}(hi:i<l.length)(h:LV l[i]! = false∨∃j<i,l[j]! = l[i]!):AV.bool false=Bo (actsOk l):=by
 have:actsOk l=false:=by
  unfold actsOk;rw [decide_eq_false_iff_not];rintro ⟨_,h4⟩;rcases h with h|⟨j,hj,e⟩
  ·rw [(h4 i hi).1] at h;cases h
  ·exact (h4 i hi).2 j hj e
 rw [this]
theorem actsR_ok (l:List ByteArray)(hl:l.length≤1048576):FnT G LC [.lst (l.map .str)] (Bo (actsOk l)):=by
 refine FnP.mk' AgA rfl rfl ?_;simp only [go_sem,↓reduceIte,↓Aa,YB];refine ⟨fun h8=>?_,fun h8=>?_⟩
 ·simp [actsOk];omega
 refine Ad (fun (i:Nat) σ=>i≤l.length∧(∀i'<i,LV l[i']! = true∧∀j<i',l[j]!≠l[i']!)∧σ=⟨aT .undef 26 [(0,.lst (l.map .str)),(8,.lst (l.map .str)),(9,I l.length),(10,I i)],[],[]⟩) (fun i=>l.length-i) ?_ 0 ?_
 ·rintro i σ ⟨hi,hall,rfl⟩ N Q hQ hN;by_cases hlt:i<l.length
  ·simp only [go_sem,↓reduceIte,↓Aa,Ab hlt (by omega),Int.ofNat_lt,hlt,AfV hl];refine ⟨fun h1=>⟨fun h2=>?_,fun h2=>?_⟩,fun h1=>?_⟩
   ·subst hQ;simp only [go_sem,↓reduceIte,↓Aa];refine Jp hlt (.inr ?_);rcases idxS_cases l l[i]! with ⟨k,k1,k2,k3,k4⟩|⟨k1,k2⟩
    ·rw [k4] at h2;rcases Nat.lt_trichotomy k i with h|rfl|h
     ·exact ⟨k,h,k2⟩
     ·simp at h2
     ·exact absurd rfl (k3 i h)
    ·exact absurd rfl (k1 i hlt)
   ·refine hN (i+1) _ (by omega) ⟨by omega,fun j hj=>?_,by simp only [go_sem,↓reduceIte,↓Aa]⟩;rcases Nat.lt_or_eq_of_le (Nat.le_of_lt_succ hj) with h|rfl
    ·exact hall j h
    ·refine ⟨h1,fun j' hj' e=>?_⟩;rcases idxS_cases l l[j]! with ⟨k,k1,k2,k3,k4⟩|⟨k1,k2⟩
     ·rw [k4] at h2
      have:k=j:=by have h3:(k:Int)=j:=by simpa using h2
                   omega
      subst this;exact k3 j' hj' e
     ·exact absurd rfl (k1 j hlt)
   ·subst hQ;simp only [go_sem,↓reduceIte,↓Aa];exact Jp hlt (.inl h1)
  ·have:i=l.length:=by omega
   subst this hQ;simp only [go_sem,↓reduceIte,↓Aa,Int.ofNat_lt,hlt];simp [actsOk];grind
 ·exact ⟨by omega,by simp,by simp only [go_sem,↓reduceIte,↓Aa]⟩
theorem takeM {α β:Type}(f:α→β)(l:List α)(i:Nat):(l.map f).take i=(l.take i).map f:=by simp
theorem Air (l:List ByteArray)(hl:l.length≤1048576):FnT G Fe [.lst (l.map .str)] (Bo (actsOk l)):=by
 refine FnP.mk' Xu rfl rfl ?_;simp only [go_sem,↓reduceIte,↓Aa,Qn];refine ⟨fun h8=>?_,fun h8=>?_⟩
 ·simp [actsOk];omega
 refine Ad (fun (i:Nat) σ=>i≤l.length∧(∀i'<i,LV l[i']! = true∧∀j<i',l[j]!≠l[i']!)∧σ=⟨aT .undef 26 [(0,.lst (l.map .str)),(8,.lst (l.map .str)),(9,I l.length),(10,I i)],[],[]⟩) (fun i=>l.length-i) ?_ 0 ?_
 ·rintro i σ ⟨hi,hall,rfl⟩ N Q hQ hN;by_cases hlt:i<l.length
  ·have hcon:=@R6;have hlen:(l.take i).length≤1048576:=by simp;omega
   simp only [go_sem,↓reduceIte,↓Aa,Ab hlt (by omega),Int.ofNat_lt,hlt,takeM,R6 hlen,List.drop_zero,Int.toNat_natCast];have key:(0≤WS (l.take i) l[i]!)↔∃j<i,l[j]! = l[i]!:=by
    have g:∀j,j<i→(l.take i)[j]! = l[j]!:=fun j hj=>by
     rw [getElem!_pos (l.take i) j (by simp;omega),getElem!_pos l j (by omega)];simp
    rcases idxS_cases (l.take i) l[i]! with ⟨k,k1,k2,k3,k4⟩|⟨k1,k2⟩
    ·simp at k1;exact ⟨fun _=>⟨k,by omega,by rw [←g k (by omega)];exact k2⟩,fun _=>by omega⟩
    ·refine ⟨fun h=>by omega,fun ⟨j,hj,e⟩=>absurd (by rw [g j hj];exact e) (k1 j (by simp;omega))⟩
   refine ⟨fun h1=>?_,fun h1=>?_⟩
   ·(repeat' (first|refine And.intro ?_ ?_|intro h2))<;>first
      | omega
      | (subst hQ;simp only [go_sem,↓reduceIte,↓Aa];exact Jp hlt (.inr (key.1 (by assumption))))
      | (refine hN (i+1) _ (by omega) ⟨by omega,fun j hj=>?_,by simp only [go_sem,↓reduceIte,↓Aa]⟩
         rcases Nat.lt_or_eq_of_le (Nat.le_of_lt_succ hj) with h|rfl
         ·exact hall j h
         ·exact ⟨h1,fun j' hj' e=>(by assumption:¬_) (key.2 ⟨j',hj',e⟩)⟩)
   ·subst hQ;simp only [go_sem,↓reduceIte,↓Aa];exact Jp hlt (.inl h1)
  ·have:i=l.length:=by omega
   subst this hQ;simp only [go_sem,↓reduceIte,↓Aa,Int.ofNat_lt,hlt];simp [actsOk];grind
 ·exact ⟨by omega,by simp,by simp only [go_sem,↓reduceIte,↓Aa]⟩
end Go.Mw
namespace Go.Mw
theorem Aff {n:Nat}(h:n<2 ^ 63):IntKind.i64.wrap (n:Int)=n:=by rw [L7]<;>omega
theorem So {n a:Nat}(h:n<2 ^ 63):Aj0 .i64 (n:Int) (a:Int)=((n>>>a:Nat):Int):=by
 unfold Aj0;have hb:IntKind.i64.bits=64:=rfl;rw [hb,Int.toNat_natCast];have e:((2:Int) ^ (min a 64))=((2 ^ (min a 64):Nat):Int):=by simp
 rw [e,←Int.ofNat_fdiv,Nat.shiftRight_eq_div_pow];congr 1;by_cases ha:a≤64
 ·rw [Nat.min_eq_left ha]
 ·rw [Nat.min_eq_right (by omega)];have h1:n / 2 ^ 64=0:=Nat.div_eq_of_lt (by omega);have h2:n / 2 ^ a=0:=Nat.div_eq_of_lt (Nat.lt_of_lt_of_le h (Nat.pow_le_pow_right (by omega) (by omega)));rw [h1,h2]
theorem SB {m n:Nat}(hm:m<2 ^ 63)(hn:n<2 ^ 63):Afg .i64 (m:Int) (n:Int)=((m&&&n:Nat):Int):=by
 unfold Afg;have hb:IntKind.i64.bits=64:=rfl;rw [hb,BitVec.ofInt_natCast,BitVec.ofInt_natCast,BitVec.toNat_and,BitVec.toNat_ofNat,BitVec.toNat_ofNat,Nat.mod_eq_of_lt (by omega),Nat.mod_eq_of_lt (by omega)];exact Aff (Nat.and_lt_two_pow _ hn)
theorem L5 {m n:Nat}(hm:m<2 ^ 63)(hn:n<2 ^ 63):bor .i64 (m:Int) (n:Int)=((m|||n:Nat):Int):=by
 unfold bor;have hb:IntKind.i64.bits=64:=rfl;rw [hb,BitVec.ofInt_natCast,BitVec.ofInt_natCast,BitVec.toNat_or,BitVec.toNat_ofNat,BitVec.toNat_ofNat,Nat.mod_eq_of_lt (by omega),Nat.mod_eq_of_lt (by omega)];exact Aff (Nat.or_lt_two_pow hm hn)
theorem Pe {p:Nat}(hp:p≤62):Aj2 .i64 1 (p:Int)=((2 ^ p:Nat):Int):=by
 unfold Aj2;have hb:IntKind.i64.bits=64:=rfl;rw [hb,Int.toNat_natCast,Nat.min_eq_left (by omega),Int.one_mul];have e:((2:Int) ^ p)=((2 ^ p:Nat):Int):=by simp
 rw [e];exact Aff (Nat.pow_lt_pow_right (by omega) (by omega))
theorem Xo {n a:Nat}(h:n<2 ^ 63):(Afg .i64 (Aj0 .i64 (n:Int) (a:Int)) 1==1)=n.testBit a:=by
 rw [So h];have h1:n>>>a<2 ^ 63:=Nat.lt_of_le_of_lt (Nat.shiftRight_le n a) h;have e:=SB (m:=n>>>a) (n:=1) h1 (by omega);have e1:((1:Nat):Int)=1:=rfl;rw [e1] at e;rw [e,Nat.and_one_is_mod];unfold Nat.testBit;rw [Nat.and_comm,Nat.and_one_is_mod];have:=Nat.mod_two_eq_zero_or_one (n>>>a);rcases this with h2|h2<;>rw [h2]<;>rfl
theorem Aiw {n a:Nat}(h:n<2 ^ 63):(Afg .i64 ((n>>>a:Nat):Int) 1==1)=n.testBit a:=by rw [←Xo h,So h]
theorem Lk {G:Prg}{f:FuncId}{xs:List AV}{b:Nat}{ss:List Nat}{σ:St}{K:AV→St→Prop}{np nt ns:Nat}{c:C}{res:List (Nat×Option (Bool×Nat))}{sp:Bool}(hf:G f=some ⟨np,nt,ns,c,res,false,false,sp⟩)(hl:xs.length=np)
 (h:Wp G c σ.h.length { t:=xs++List.replicate (nt-xs.length) (.tup []),h:=σ.h++List.replicate ns Jv,lp:=σ.lp }
   (fun e σ1=>(match e with | .ext _=>False|_=>True)∧Wg σ1 res (fun rs=>K (packV (treeBL σ.h.length σ1.h rs)) ⟨σ.t,σ1.h.take σ.h.length,σ1.lp⟩))):CO G f xs b ss σ K:=by
 obtain ⟨n,e,σ1,hx,he,hr⟩:=h;unfold Wg at hr;cases hrs:resT σ1 res with
 | none=>simp [hrs] at hr
 | some rs =>
   simp only [hrs] at hr;refine ⟨n+2,_,_,?_,hr⟩;rw [callF,hf];simp only [hl,if_true,Bool.false_eq_true,if_false];rw [runF];rw [hl] at hx;simp only [hx];cases e with
   | ext i=>exact he.elim
   | nrm=>simp only [hrs,Bool.false_and,NQ]
   | ret=>simp only [hrs,Bool.false_and,NQ]
theorem Ag9 {G:Prg}{l:Nat}{xs:List AV}{σ:St}{K:AV→St→Prop}{lp:Lp}(hlp:σ.lp[l]? = some lp)(hb:lp.busy=false)(hp:lp.pend=none)(hn:xs.length=lp.ps.length)
 (h:Wp G lp.asg lp.base ⟨setPs lp.ps xs (kill lp.kt lp.t),freeSites lp.base lp.ks σ.h,σ.lp⟩ (fun e σ1=>e = .nrm∧σ1.lp=σ.lp ∧
   Wp G lp.body lp.base { σ1 with lp:=σ.lp.set l { lp with busy:=true } } (fun e σ2=>σ2.lp=σ.lp.set l { lp with busy:=true }∧K (.bool (Me e).isNone) ⟨σ.t,σ2.h,σ.lp.set l { lp with pend:=Me e }⟩))):WpY G l xs σ K:=by
 obtain ⟨base,t,ps,kt,ks,asg,body,pe,bu⟩:=lp;simp only at hb hp hn h;subst hb;subst hp;obtain ⟨n,e,σ1,h1,rfl,hl1,m,e2,σ2,h2,hl2,hk⟩:=h;have hlt:l<σ.lp.length:=List.lt_of_some hlp;refine ⟨max n m+1,_,_,?_,hk⟩;rw [yieldF,hlp];simp only [hn,Option.isNone_none,and_self,if_true];rw [(monoLe (Nat.le_max_left n m)).1 _ _ _ _ h1];simp only [hl1,hlp,Option.isNone_none,and_self,if_true];rw [(monoLe (Nat.le_max_right n m)).1 _ _ _ _ h2];simp only [hl2,List.getElem?_set_self hlt,List.set_set]
theorem wp_rngf {G:Prg}{x:Opd}{ps kt ks:List Nat}{asg body:C}{b:Nat}{σ:St}{Q:Ex→St→Prop}{g:FuncId}{cs:List AV}(hx:σ.get x = .fn g cs)
 (h:CO G g (.yld σ.lp.length::cs) b [] { σ with lp:=σ.lp++[{ base:=b,t:=σ.t,ps,kt,ks,asg,body,pend:=none,busy:=false }] }
   (fun _ σ1=>∃e,σ1.lp=σ.lp++[{ base:=b,t:=σ.t,ps,kt,ks,asg,body,pend:=Me e,busy:=false }]∧Q e ⟨σ.t,σ1.h,σ.lp⟩)):Wp G (.rngf x ps kt ks asg body) b σ Q:=by
 obtain ⟨n,v,σ1,h1,e,h2,h3⟩:=h;refine ⟨n+1,e,_,?_,h3⟩;rw [evC];simp only [hx,h1,h2];rw [List.getElem?_append_right (Nat.le_refl _)];simp only [Nat.sub_self,List.getElem?_cons_zero,Bool.false_eq_true,if_false,List.take_left];cases e<;>rfl
theorem Akc (n:Int):Fn G FP [I n] (.fn FG [.pfro [I n]]):=by
 refine FnP.mk' Agm rfl rfl ?_;simp only [go_sem,↓reduceIte,↓Aa,Yo]
theorem Ako {n:Int}{roots:List Nat}{b:Nat}{ss:List Nat}{σ:St}{k:AV→St→Prop}:callT G FP [I n] true roots b ss σ k=k (.fn FG [.pfro [I n]]) σ:=(Akc n).rule
attribute [go_sem] Ako
theorem Adm {nt:Nat}{L:List Nat}{d:AV}{l:List (Nat×AV)}{h:List Ob}{lp:List Lp}{b:Nat}:NA (rest nt L) [] b ⟨aT d nt l,h,lp⟩=⟨aT .undef nt (L.map fun k=>(k,Kl d k l)),h,lp⟩:=by
 simp only [NA,MF aT_len,Ph];rfl
theorem AhU {nt:Nat}{L:List Nat}{d:AV}{l:List (Nat×AV)}:kill (rest nt L) (aT d nt l)=aT .undef nt (L.map fun k=>(k,Kl d k l)):=by
 rw [MF aT_len,Ph]
theorem Afi {b:Nat}{h:List Ob}:freeSites b [] h=h:=rfl
attribute [go_sem] Adm AhU Afi Fj
def Afk (b:Nat)(t:List AV)(p:Nat)(kt ks:List Nat)(asg body:C)(pend:Option Ex)(busy:Bool):Lp:={ base:=b,t,ps:=[p],kt,ks,asg,body,pend,busy }
theorem testBit_big {n a:Nat}(h:n<2 ^ a){i:Nat}(hi:a≤i):n.testBit i=false:=Nat.testBit_lt_two_pow (Nat.lt_of_lt_of_le h (Nat.pow_le_pow_right (by omega) hi))
theorem Abu {n a:Nat}:0<n>>>a↔2 ^ a≤n:=by
 rw [Nat.shiftRight_eq_div_pow];exact ⟨fun h=>by
  rcases Nat.lt_or_ge n (2 ^ a) with h1|h1
  ·rw [Nat.div_eq_of_lt h1] at h;omega
  ·exact h1,fun h=>Nat.div_pos h (Nat.two_pow_pos a)⟩
theorem AdH {x:Opd}{p:Nat}{kt ks:List Nat}{asg body:C}{b:Nat}{σ:St}{Q:Ex→St→Prop}(set:Nat)(hs:set<2 ^ 62)(hx:σ.get x = .fn FG [.pfro [I set]])
 (Inv:Nat→List Ob→Prop) (hlen:∀a h,Inv a h→h.length=σ.h.length) (h0:Inv 0 σ.h) (skip:∀a h,set.testBit a=false→Inv a h→Inv (a+1) h)
 (step:∀a h,set.testBit a=true→a<62→Inv a h→Wp G asg b ⟨(kill kt σ.t).set p (I a),freeSites b ks h,σ.lp++[Afk b σ.t p kt ks asg body none false]⟩ (fun e σ1=>e = .nrm∧σ1.lp=σ.lp++[Afk b σ.t p kt ks asg body none false] ∧
   Wp G body b { σ1 with lp:=σ.lp++[Afk b σ.t p kt ks asg body none true] } (fun e σ2=>σ2.lp=σ.lp++[Afk b σ.t p kt ks asg body none true]∧match e with | .nrm=>Inv (a+1) σ2.h|e=>σ2.h.length=σ.h.length∧Q e ⟨σ.t,σ2.h,σ.lp⟩)))
 (fin:∀a h,set<2 ^ a→Inv a h→Q .nrm ⟨σ.t,h,σ.lp⟩):Wp G (.rngf x [p] kt ks asg body) b σ Q:=by
 refine wp_rngf hx (Lk ZA rfl ?_);rw [Jn (by simp)];simp only [go_sem,↓reduceIte,↓Aa,RV];have hrec:∀pe bu,({ base:=b,t:=σ.t,ps:=[p],kt,ks,asg,body,pend:=pe,busy:=bu }:Lp)=Afk b σ.t p kt ks asg body pe bu:=fun _ _=>rfl;simp only [hrec];refine Ad (fun (a:Nat) τ=>a≤62∧∃h,Inv a h∧τ=⟨aT .undef 21 [(0,.yld σ.lp.length),(1,.pfro [I set]),(3,I a)],h,σ.lp++[Afk b σ.t p kt ks asg body none false]⟩) (fun a=>62-a) ?_ 0 ?_
 ·rintro a τ ⟨ha,h,hI,rfl⟩ N Q' hQ hN;have hfinal:∀(e:Ex) (h:List Ob) (T:List (Nat×AV)),h.length=σ.h.length→Q e ⟨σ.t,h,σ.lp⟩→∃e',σ.lp++[Afk b σ.t p kt ks asg body (Me e) false]=σ.lp++[Afk b σ.t p kt ks asg body (Me e') false]∧Q e' ⟨σ.t,h.take σ.h.length,σ.lp⟩:=fun e h T hl hq =>
   ⟨e,rfl,by rw [List.take_of_length_le (by omega)];exact hq⟩
  simp only [go_sem,↓reduceIte,↓Aa,So (show set<2 ^ 63 by omega),Aiw (show set<2 ^ 63 by omega)];refine ⟨fun hpos=>⟨fun hbit=>?_,fun hbit=>?_⟩,fun hpos=>?_⟩
  ·have ha62:a<62:=by
    rcases Nat.lt_or_ge a 62 with h1|h1
    ·exact h1
    ·rw [testBit_big hs h1] at hbit;cases hbit
   have hget:∀r:Lp,(σ.lp++[r])[σ.lp.length]? = some r:=fun r=>by rw [List.getElem?_append_right (Nat.le_refl _)];simp
   have hset:∀r x:Lp,(σ.lp++[r]).set σ.lp.length x=σ.lp++[x]:=fun r x=>by rw [List.set_append_right _ _ (Nat.le_refl _)];simp
   refine Ag9 (hget _) rfl rfl rfl ?_;refine (step a h hbit ha62 hI).mono (fun e σ1 ⟨h1,h2,h3⟩=>⟨h1,h2,?_⟩);rw [hset];refine h3.mono (fun e2 σ2 ⟨g1,g2⟩=>⟨g1,?_⟩);rw [hset];show WpO G _ _ (St.put ⟨_,_,σ.lp++[Afk b σ.t p kt ks asg body (Me e2) false]⟩ _ _) _;cases e2 with
   | nrm =>
     simp only [go_sem,↓reduceIte,↓Aa,Me,Option.isNone_none];refine hN (a+1) _ (by omega) ⟨by omega,σ2.h,g2,?_⟩;simp only [go_sem,↓reduceIte,↓Aa,Ab ha62 (by omega)]
   | ext i =>
     simp only [go_sem,↓reduceIte,↓Aa,Me,Option.isNone_some];subst hQ;simp only [go_sem,↓reduceIte,↓Aa];exact hfinal (.ext i) σ2.h [] g2.1 g2.2
   | ret =>
     simp only [go_sem,↓reduceIte,↓Aa,Me,Option.isNone_some];subst hQ;simp only [go_sem,↓reduceIte,↓Aa];exact hfinal .ret σ2.h [] g2.1 g2.2
  ·have ha62:a<62:=by
    have h1:0<set>>>a:=by omega
    rw [Abu] at h1;rcases Nat.lt_or_ge a 62 with h2|h2
    ·exact h2
    ·have:=Nat.pow_le_pow_right (n:=2) (by omega) h2;omega
   refine hN (a+1) _ (by omega) ⟨by omega,h,skip a h hbit hI,?_⟩;simp only [go_sem,↓reduceIte,↓Aa,Ab ha62 (by omega)]
  ·subst hQ;simp only [go_sem,↓reduceIte,↓Aa];refine hfinal .nrm h [] (hlen a h hI) (fin a h ?_ hI);have h1:¬0<set>>>a:=by omega
   rw [Abu] at h1;omega
 ·exact ⟨by omega,σ.h,h0,by simp only [go_sem,↓reduceIte,↓Aa]⟩
set_option maxRecDepth 100000
structure Ch where
 N:Int
 W:Int
 deriving Inhabited
structure Plan where
 A:List Ch
 X:List (List Ch)
 deriving Inhabited
structure Fam where
 acts:List ByteArray
 P:Int
 S:List Plan
 deriving Inhabited
def choOk (l:List Ch)(most:Int)(p:Int→Bool):Bool:=decide (∀i<l.length,p l[i]!.N=true∧1≤l[i]!.W∧l[i]!.W<most∧(0<i→l[i-1]!.N<l[i]!.N))
structure Clo (v:AV)(f:FuncId)(cs:List AV)(p:Int→Bool):Prop where
 e:v = .fn f cs
 pu:PureF G f
 t:∀h,treeBL 0 h cs=cs
 ok:∀n:Int,FnT G f (I n::cs) (Bo (p n))
theorem Ae {P:Nat→Prop}{i:Nat}(h:∀j<i,P j)(hi:P i):∀j<i+1,P j:=fun j hj=>by
 rcases Nat.lt_or_eq_of_le (Nat.le_of_lt_succ hj) with h1|rfl
 ·exact h j h1
 ·exact hi
theorem hasR_ok (n a:Nat)(hn:n<2 ^ 63):FnT G FS [I n,I a] (Bo (n.testBit a)):=by
 refine FnP.mk' AcL rfl rfl ?_;simp only [go_sem,↓reduceIte,↓Aa,Vp,Xo hn]
section
variable {fr:Bool}{roots:List Nat}{b:Nat}{ss:List Nat}{σ:St}{k:AV→St→Prop}
theorem Ac4 {n a:Nat}(hn:n<2 ^ 63):callT G FS [I n,I a] fr roots b ss σ k=k (Bo (n.testBit a)) σ:=(hasR_ok n a hn).rule
end
end Go.Mw
namespace Go.Mw
set_option maxRecDepth 100000
def bitsL (n s:Nat):List Nat:=(List.range n).filter s.testBit
abbrev nI (a:Nat):AV:=I a
theorem RN {n s:Nat}:bitsL (n+1) s=if s.testBit n then bitsL n s++[n] else bitsL n s:=by
 unfold bitsL;rw [List.range_succ,List.filter_append];by_cases h:s.testBit n<;>simp [h]
theorem V5 {n s:Nat}:(bitsL n s).length≤n:=by
 unfold bitsL;exact Nat.le_trans (List.length_filter_le _ _) (by simp)
theorem Adl {n s j:Nat}(h:j<(bitsL n s).length):(bitsL n s)[j]! < n∧s.testBit (bitsL n s)[j]! = true:=by
 rw [getElem!_pos (bitsL n s) j h];have:=List.getElem_mem h;simp only [bitsL,List.mem_filter,List.mem_range] at this;exact this
theorem AdZ {n s a:Nat}(ha:a<n)(h:s.testBit a=true):∃j,j<(bitsL n s).length∧(bitsL n s)[j]! = a:=by
 have:a∈bitsL n s:=by simp [bitsL,ha,h]
 obtain ⟨j,hj,e⟩:=List.mem_iff_getElem.1 this;exact ⟨j,hj,by rw [getElem!_pos (bitsL n s) j hj];exact e⟩
theorem Ahj (n s:Nat)(hn:n≤1000)(hs:s<2 ^ 63):Fn G Hv [I n,I s] (.lst ((bitsL n s).map nI)):=by
 refine FnP.mk' Abi rfl rfl ?_;simp only [go_sem,↓reduceIte,↓Aa,R4];refine Ad (fun (i:Nat) σ=>i≤n∧∃a c st ss,σ=⟨aT .undef 20 [(1,I s),(5,Mo .nils 1 1 st ((bitsL i s).map nI)),(7,I n),(8,I i)],[⟨a,c,.gone⟩,⟨st,ss,Pa 1 ((bitsL i s).map nI)⟩],[]⟩) (fun i=>n-i) ?_ 0 ?_
 ·rintro i σ ⟨hi,a,c,st,ss,rfl⟩ N Q hQ hN;by_cases hlt:i<n
  ·have hsm:=@V5 i s;simp only [go_sem,↓reduceIte,↓Aa,Ab hlt (by omega),Int.ofNat_lt,hlt,Ac4 hs];refine ⟨fun hb=>?_,fun hb=>?_⟩
   ·refine ⟨by omega,hN (i+1) _ (by omega) ⟨by omega,a+1,0,st+1,0,?_⟩⟩;simp only [go_sem,↓reduceIte,↓Aa,RN,hb,List.map_append]
   ·refine hN (i+1) _ (by omega) ⟨by omega,a,c,st,ss,?_⟩;simp only [go_sem,↓reduceIte,↓Aa,RN,hb]
  ·have:i=n:=by omega
   subst this hQ;simp only [go_sem,↓reduceIte,↓Aa,Int.ofNat_lt,hlt]
 ·refine ⟨by omega,0,0,0,0,?_⟩;simp only [go_sem,↓reduceIte,↓Aa,bitsL,List.range_zero,List.filter_nil]
theorem Aj1 {n s:Nat}(hn:n≤1000)(hs:s<2 ^ 63){roots:List Nat}{b:Nat}{ss:List Nat}{σ:St}{k:AV→St→Prop}:callT G Hv [I n,I s] true roots b ss σ k=k (.lst ((bitsL n s).map nI)) σ:=(Ahj n s hn hs).rule
def orAll (l:List Ch):Int:=l.foldl (fun s c=>bor .i64 s c.W) 0
def disj (l:List Ch):Bool:=decide (∀k<l.length,Afg .i64 (orAll (l.take k)) l[k]!.W=0)
structure PlanOk (p:Plan)(n st pr:Nat):Prop where
 len:p.X.length=n
 acc:choOk p.A ((2 ^ pr:Nat):Int) (fun x=>decide (0≤x∧x<((2 ^ n:Nat):Int)))=true
 nxt:∀i<p.X.length,choOk p.X[i]! ((2 ^ pr:Nat):Int) (fun x=>decide (0≤x∧x<(st:Int)))=true∧disj p.X[i]! = true
 has:∀i<p.A.length,∀a<n,p.A[i]!.N.toNat.testBit a=true→bandn .i64 p.A[i]!.W (orAll p.X[a]!)=0
structure FamOk (f:Fam):Prop where
 acts:actsOk f.acts=true
 p1:1≤f.P
 p2:f.P≤32
 s1:1≤f.S.length
 s2:f.S.length≤500
 plan:∀i<f.S.length,PlanOk f.S[i]! f.acts.length f.S.length f.P.toNat
structure PSz (p:Plan):Prop where
 a:p.A.length≤1048576
 x:p.X.length≤1048576
 y:∀i<p.X.length,p.X[i]!.length≤1048576
structure FSz (f:Fam):Prop where
 a:f.acts.length≤1048576
 s:f.S.length≤1048576
 p:∀i<f.S.length,PSz f.S[i]!
section
variable {fr:Bool}{roots:List Nat}{b:Nat}{ss:List Nat}{σ:St}{k:AV→St→Prop}
theorem Ah3 {l:List ByteArray}(hl:l.length≤1048576):callT G LC [.lst (l.map .str)] fr roots b ss σ k=k (Bo (actsOk l)) σ:=(actsR_ok l hl).rule
theorem AiZ {l:List ByteArray}(hl:l.length≤1048576):callT G Fe [.lst (l.map .str)] fr roots b ss σ k=k (Bo (actsOk l)) σ:=(Air l hl).rule
end
end Go.Mw
namespace Go.Mw
set_option maxRecDepth 100000
def chosenL (l:List Ch)(p:Nat):List Int:=(l.filter fun c=>c.W.toNat.testBit p).map (·.N)
def WOk (l:List Ch):Prop:=∀i<l.length,∃w:Nat,l[i]!.W=w∧w<2 ^ 62
def AjN (l:List Ch)(p:Nat):Int:=(chosenL l p).headD (-1)
theorem Aew (l:List ByteArray)(hl:l.length≤1048576):FnS G AC [.lst (l.map .str)] (.lst (l.map .str)):=by
 cases l with
 | nil=>exact ⟨A7,30,Jb,rfl,rfl,rfl⟩
 | cons x l =>
   have h:FnQ G AC [.lst ((x::l).map .str)] (fun rs h=>packV (treeBL 0 h rs) = .lst ((x::l).map .str)):=by
    refine FnQ.mk' Jb rfl rfl ?_;simp only [go_sem,↓reduceIte,↓Aa,HP];exact ⟨fun h=>by simp at h,fun _=>⟨by simp at hl;omega,rfl⟩⟩
   obtain ⟨F,n,rs,σ1,hf,h1,h2,h4,hr,hR,h3⟩:=h;refine ⟨F,n,hf,h1,h2,?_⟩;unfold callX;rw [h4];simp only [Bool.false_eq_true,if_false,hr,Bool.true_or,if_true,NQ,List.isEmpty_nil,Bool.not_true,Bool.and_false,hR]
structure Stt where
 A:List Int
 X:List Int
 deriving Inhabited
structure Spc where
 acts:List ByteArray
 S:List Stt
 deriving Inhabited
def eSt (x:Stt):AV:=.agg [.lst (x.A.map I),.lst (x.X.map I)]
def eSp (s:Spc):AV:=.agg [.lst (s.acts.map .str),.lst (s.S.map eSt)]
def Ake (x:Plan)(p:Nat):Stt:=⟨chosenL x.A p,x.X.map fun l=>AjN l p⟩
def prodOf (f:Fam)(p:Nat):Spc:=⟨f.acts,f.S.map fun x=>Ake x p⟩
structure FWOk (f:Fam):Prop where
 a:∀i<f.S.length,WOk f.S[i]!.A
 x:∀i<f.S.length,∀j<f.S[i]!.X.length,WOk f.S[i]!.X[j]!
theorem EK {α β:Type}[Inhabited α](g:α→β){l:List α}{i:Nat}(h:i<l.length):(l.take (i+1)).map g=(l.take i).map g++[g l[i]!]:=by
 rw [List.take_succ_eq_append_getElem h,List.map_append,getElem!_pos l i h];rfl
theorem TZ {l:List ByteArray}(hl:l.length≤1048576){roots:List Nat}{b:Nat}{σ:St}{k:AV→St→Prop} :
 callT G AC [.lst (l.map .str)] true roots b [] σ k=k (.lst (l.map .str)) σ:=(Aew l hl).rule
def Aen (G:Prg)(ops:List Rop)(b:Nat)(σ:St)(K:St→List (Option (List Nat))→Prop)(u:Tg K:=tg):Prop:=WpD G ops b σ K
theorem Ah6 {G:Prg}{ops:List Rop}{x:Nat×Nat}{prs:List (Nat×Nat)}{b:Nat}{σ:St}{Q:Ex→St→Prop} :
 Wp G (.drw ops (x::prs)) b σ Q=Aen G ops b σ (fun σ1 fs=>(x::prs).all (fun p=>K8 (fs.getD p.1 none) (fs.getD p.2 none))=true∧Q .nrm σ1):=Ag8
theorem Zm {G:Prg}{ops:List Rop}{b:Nat}{σ τ:St}{K:St→List (Option (List Nat))→Prop}(h:σ=τ):Aen G ops b σ K=Aen G ops b τ K:=by rw [h]
attribute [congr] Zm
theorem Afd {G:Prg}{b:Nat}{σ:St}{K:St→List (Option (List Nat))→Prop}:Aen G [] b σ K=K σ [] :=
 propext ⟨fun ⟨n,σ',fs,h,k⟩=>by simp [drwE] at h;obtain ⟨rfl,rfl⟩:=h;exact k,fun k=>⟨0,σ,[],rfl,k⟩⟩
theorem Ahp {G:Prg}{n m:Nat}(h:n≤m){ops:List Rop}{b:Nat}{σ:St}{r:St×List (Option (List Nat))}(hx:drwE G (evO G n) ops b σ=some r):drwE G (evO G m) ops b σ=some r :=
 Qc (fun i b σ r h2=>(monoLe h).2.1 i b σ r h2) _ _ _ _ hx
theorem AgM {G:Prg}{i:Ins}{b:Nat}{σ:St}{k:AV→St→Prop}:wpI G i b σ k↔∃n v σ1,evO G n i b σ=some (v,σ1)∧k v σ1:=by
 have h:=YH (G:=G) (d:=none) (i:=i) (os:=[]) (b:=b) (σ:=σ) (K:=fun _=>True);have key:∀k:AV→St→Prop,wpI G i b σ k=∃n v σ1,evO G n i b σ=some (v,σ1)∧k v σ1:=by
  intro k;cases i with
  | call f xs ss =>
    refine propext ⟨fun ⟨n,v,σ1,h1,h2⟩=>⟨n+1,v,σ1,h1,h2⟩,fun ⟨n,v,σ1,h1,h2⟩=>?_⟩;cases n with
    | zero=>simp [evO] at h1
    | succ n=>exact ⟨n,v,σ1,h1,h2⟩
  | calv x xs ss =>
    show Abl G (σ.get x) (σ.gets xs) b ss σ k=_;cases hx:σ.get x with
    | fn f cs =>
      refine propext ⟨fun ⟨n,v,σ1,h1,h2⟩=>⟨n+1,v,σ1,by rw [evO,hx];exact h1,h2⟩,fun ⟨n,v,σ1,h1,h2⟩=>?_⟩;cases n with
      | zero=>simp [evO] at h1
      | succ n=>rw [evO,hx] at h1;exact ⟨n,v,σ1,h1,h2⟩
    | yld l =>
      refine propext ⟨fun ⟨n,v,σ1,h1,h2⟩=>⟨n+1,v,σ1,by rw [evO,hx];exact h1,h2⟩,fun ⟨n,v,σ1,h1,h2⟩=>?_⟩;cases n with
      | zero=>simp [evO] at h1
      | succ n=>rw [evO,hx] at h1;exact ⟨n,v,σ1,h1,h2⟩
    | _ =>
      refine propext ⟨fun h=>h.elim,fun ⟨n,v,σ1,h1,h2⟩=>?_⟩;cases n with
      | zero=>simp [evO] at h1
      | succ n=>simp [evO,hx] at h1
  | _ =>
    refine propext ⟨fun h=>?_,fun ⟨n,v,σ1,h1,h2⟩=>?_⟩
    ·refine ⟨1,?_⟩;rw [Nc rfl];simp only [wpI,Bm] at h;split at h
     ·rename_i v h' hx;exact ⟨v,{ σ with h:=h' },rfl,h⟩
     ·exact h.elim
    ·cases n with
     | zero=>simp [evO] at h1
     | succ n =>
       rw [Nc rfl] at h1;simp only [wpI,Bm];split at h1
       ·rename_i v' h' hx;simp only [Option.some.injEq,Prod.mk.injEq] at h1;obtain ⟨rfl,rfl⟩:=h1;exact h2
       ·cases h1
 rw [key k]
theorem wpDr_cons {G:Prg}{d:Option Nat}{i:Ins}{os:List Rop}{b:Nat}{σ:St}{K:St→List (Option (List Nat))→Prop} :
 Aen G (⟨d,i,none⟩::os) b σ K=wpI G i b σ (fun v σ1=>Aen G os b (σ1.put d v) (fun σ2 fs=>K σ2 (foot G b i σ::fs))):=by
 refine propext ⟨fun ⟨n,σ',fs,h,k⟩=>?_,fun h=>?_⟩
 ·rw [AgM];simp only [drwE,wantedO] at h;cases hx:evO G n i b σ with
  | none=>simp [hx] at h
  | some p =>
    obtain ⟨v,σ1⟩:=p;simp only [hx] at h;cases hy:drwE G (evO G n) os b (σ1.put d v) with
    | none=>simp [hy] at h
    | some q =>
      obtain ⟨σ2,fs2⟩:=q;simp only [hy,Option.some.injEq,Prod.mk.injEq] at h;obtain ⟨rfl,rfl⟩:=h;exact ⟨n,v,σ1,hx,n,σ2,fs2,hy,k⟩
 ·rw [AgM] at h;obtain ⟨n,v,σ1,h1,m,σ2,fs,h2,k⟩:=h;refine ⟨max n m,σ2,foot G b i σ::fs,?_,k⟩;simp only [drwE,wantedO,(monoLe (Nat.le_max_left n m)).2.1 _ _ _ _ h1,Ahp (Nat.le_max_right n m) h2]
attribute [go_sem] Ah6 Afd wpDr_cons
section
variable {G:Prg}{b:Nat}{σ:St}{x y z:Opd}
theorem AfW  : foot G b (.mov x) σ=some []:=(rfl)
theorem AbL  : foot G b (.pick x y z) σ=some []:=(rfl)
theorem AeT {op:BinOp}:foot G b (.bin op x y) σ=some []:=(rfl)
theorem AhO {ag:Bool}{n:Nat}:foot G b (.ld ag n x) σ=some (rootsL [σ.get x]):=(rfl)
theorem Agh {n:Nat}:foot G b (.fad n x) σ=some (rootsL [σ.get x]):=(rfl)
theorem AdP  : foot G b (.lenl x) σ=some (rootsL [σ.get x]):=(rfl)
theorem Aer {n:Nat}:foot G b (.sto n x y) σ=some (rootsL [σ.get x,σ.get y]):=(rfl)
theorem Aeq {n:Nat}:foot G b (.iad n x y) σ=some (rootsL [σ.get x,σ.get y]):=(rfl)
theorem Agk {n:Nat}{m:Nat}:foot G b (.iaa n m x y) σ=some (rootsL [σ.get x,σ.get y]):=(rfl)
theorem AeN {s n:Nat}{z:AV}:foot G b (.alc s n z) σ=some [b+s]:=(rfl)
theorem Agv {s n m:Nat}:foot G b (.app s n m x y) σ=some ((b+s)::rootsL [σ.get x,σ.get y]):=(rfl)
theorem AeJ {s n m:Nat}{z:AV}:foot G b (.mks s n m z x y) σ=some ((b+s)::rootsL [σ.get x,σ.get y]):=(rfl)
theorem AgG {s n m:Nat}{xs:List Opd}:foot G b (.bsl s n m xs) σ=some ((b+s)::rootsL (σ.gets xs)):=(rfl)
theorem Agg {zs:List AV}{ps:List (Nat×Nat×Opd)}:foot G b (.bld zs ps) σ=some (rootsL (σ.gets (ps.map (·.2.2)))):=(rfl)
def AfP (G:Prg)(v:AV)(ys:List AV):Option (List Nat) :=
 match v with
 | .fn f cs=>match G f with
   | some F=>if F.pure then some (rootsL (ys++cs)) else none
   | none=>none
 | _=>none
theorem AdL {xs:List Opd}:foot G b (.calv x xs []) σ=AfP G (σ.get x) (σ.gets xs):=by
 simp only [foot,AfP];generalize σ.get x=v;cases v<;>first|rfl|(simp only [List.map_nil,List.nil_append])
theorem Pf {f:FuncId}{cs ys:List AV}(h:PureF G f):AfP G (.fn f cs) ys=some (rootsL (ys++cs)):=by
 obtain ⟨F,h1,h2⟩:=h;simp [AfP,h1,h2]
theorem AT {f:FuncId}{xs:List Opd}(h:PureF G f):foot G b (.call f xs []) σ=some (rootsL (σ.gets xs)):=by
 obtain ⟨F,h1,h2⟩:=h;simp [foot,h1,h2]
end
attribute [go_sem] AdL Pf  AfW AbL AeT         AhO Agh AdP  Aer Aeq Agk  AeN  Agv AeJ AgG Agg AT
theorem Wy:rootsL [] = []:=(rfl)
theorem VJ {x:AV}{xs:List AV}:rootsL (x::xs)=rootsOf x++rootsL xs:=(rfl)
theorem Abw {κ:IntKind}{n:Int}:rootsOf (.int κ n) = []:=(rfl)
theorem Abn {v:Bool}:rootsOf (.bool v) = []:=(rfl)
theorem Aec {v:List AV}:rootsOf (.lst v) = []:=(rfl)
theorem Abj:rootsOf .nils = []:=(rfl)
theorem Acj:rootsOf .emp = []:=(rfl)
theorem Aae {v:List AV}:rootsOf (.pfro v) = []:=(rfl)
theorem Agi {r st:Nat}{p:Path}{ss off len:Nat}:rootsOf (.sl r st p ss off len) = [r]:=(rfl)
theorem Acn {r st:Nat}{p:Path}{ss i j:Nat}:rootsOf (.ptr r st p ss i j) = [r]:=(rfl)
theorem Ad2 {v:List AV}:rootsOf (.agg v)=rootsL v:=(rfl)
theorem AeP {f:FuncId}{v:List AV}:rootsOf (.fn f v)=rootsL v:=(rfl)
def may (xs:List AV)(r:Nat):List Nat:=if xs = [] then [] else [r]
theorem Ab4 {e:AV}{es r st:Nat}{xs:List AV}(he:e.void=true):rootsOf (Mo e es r st xs)=may xs r:=by
 unfold Mo may;split
 ·cases e<;>first|rfl|(simp [AV.void] at he)
 ·rfl
theorem Aap {e:AV}{es r st ss:Nat}{p:Path}{xs:List AV}(he:e.void=true):rootsOf (On e es r st p ss xs)=may xs r:=by
 unfold On may;split
 ·cases e<;>first|rfl|(simp [AV.void] at he)
 ·rfl
def M9 (r:Nat)(l:List Nat):Prop:=l.contains r=false
def KA (a b:List Nat):Prop:=(a.all fun r => !b.contains r)=true
theorem Ahg {b:Option (List Nat)}:(K8 (some []) b=true)=True:=by simp [K8]
theorem AhV {x:Nat}{a b:List Nat}:(K8 (some (x::a)) (some b)=true)=KA (x::a) b:=by
 unfold KA;cases b with
 | nil=>simp [K8]
 | cons y b=>rfl
theorem AcG {xs:List AV}{r:Nat}{a b:List Nat}:(K8 (some (may xs r++a)) (some b)=true)=KA (may xs r++a) b:=by
 unfold KA may;split
 ·cases a with
  | nil=>simp [K8]
  | cons x a=>cases b<;>simp [K8]
 ·cases b<;>simp [K8]
theorem Afq {xs:List AV}{r:Nat}{b:List Nat}:(K8 (some (may xs r)) (some b)=true)=KA (may xs r) b:=by
 have:=@AcG xs r [] b;rwa [List.append_nil] at this
theorem ZH {b:List Nat}:KA [] b=True:=by simp [KA]
theorem WW {x:Nat}{a b:List Nat}:KA (x::a) b=(M9 x b∧KA a b):=by simp [KA,M9]
theorem Xy {xs:List AV}{r:Nat}{b:List Nat}:KA (may xs r) b=(xs≠[]→M9 r b):=by
 unfold may;by_cases h:xs = []<;>simp [h,KA,M9]
theorem Adk {x:Nat}:M9 x []=True:=by simp [M9]
theorem AaJ {x y:Nat}{b:List Nat}:M9 x (y::b)=(¬x=y∧M9 x b):=by simp [M9]
theorem AbW {x:Nat}{xs:List AV}{r:Nat}{b:List Nat}:M9 x (may xs r++b)=((xs≠[]→¬x=r)∧M9 x b):=by
 unfold may;by_cases h:xs = []<;>simp [h,M9]
theorem AaV {x:Nat}{xs:List AV}{r:Nat}:M9 x (may xs r)=(xs≠[]→¬x=r):=by
 unfold may;by_cases h:xs = []<;>simp [h,M9]
theorem AjL {a b:Bool}:((a&&b)=true)=(a=true∧b=true):=by cases a<;>cases b<;>simp
attribute [go_sem] AjL Wy VJ Abw Abn  Aec Abj Acj  Aae Agi Acn  Ad2  AeP Ab4 Aap Ahg AhV AcG Afq Xy AaV ZH WW  Adk AaJ AbW
end Go.Mw
namespace Go.Mw
set_option maxRecDepth 100000
theorem sameS_ok (l:List ByteArray)(hl:l.length≤1048576):FnT G AI [.lst (l.map .str),.lst (l.map .str)] (Bo true):=by
 refine FnP.mk' J0 rfl rfl ?_;simp only [go_sem,↓reduceIte,↓Aa,bne_self_eq_false,E7];refine Ad (fun (i:Nat) σ=>i≤l.length∧σ=⟨aT .undef 26 [(1,.lst (l.map .str)),(12,.lst (l.map .str)),(13,I l.length),(14,I i)],[],[]⟩) (fun i=>l.length-i) ?_ 0 ?_
 ·rintro i σ ⟨hi,rfl⟩ N Q hQ hN;by_cases hlt:i<l.length
  ·simp only [go_sem,↓reduceIte,↓Aa,bne_self_eq_false,Ab hlt (by omega),Int.ofNat_lt,hlt];refine hN (i+1) _ (by omega) ⟨by omega,?_⟩;simp only [go_sem,↓reduceIte,↓Aa,bne_self_eq_false]
  ·subst hQ;simp only [go_sem,↓reduceIte,↓Aa,bne_self_eq_false,Int.ofNat_lt,hlt]
 ·exact ⟨by omega,by simp only [go_sem,↓reduceIte,↓Aa]⟩
theorem AgJ (l:List Int)(hl:l.length≤1048576):FnT G A1 [.lst (l.map I),.lst (l.map I)] (Bo true):=by
 refine FnP.mk' L2 rfl rfl ?_;simp only [go_sem,↓reduceIte,↓Aa,bne_self_eq_false,JP];refine Ad (fun (i:Nat) σ=>i≤l.length∧σ=⟨aT .undef 26 [(1,.lst (l.map I)),(12,.lst (l.map I)),(13,I l.length),(14,I i)],[],[]⟩) (fun i=>l.length-i) ?_ 0 ?_
 ·rintro i σ ⟨hi,rfl⟩ N Q hQ hN;by_cases hlt:i<l.length
  ·simp only [go_sem,↓reduceIte,↓Aa,bne_self_eq_false,Ab hlt (by omega),Int.ofNat_lt,hlt];refine hN (i+1) _ (by omega) ⟨by omega,?_⟩;simp only [go_sem,↓reduceIte,↓Aa,bne_self_eq_false]
  ·subst hQ;simp only [go_sem,↓reduceIte,↓Aa,bne_self_eq_false,Int.ofNat_lt,hlt]
 ·exact ⟨by omega,by simp only [go_sem,↓reduceIte,↓Aa]⟩
section
variable {fr:Bool}{roots:List Nat}{b:Nat}{ss:List Nat}{σ:St}{k:AV→St→Prop}
theorem AhN {l:List ByteArray}(hl:l.length≤1048576):callT G AI [.lst (l.map .str),.lst (l.map .str)] fr roots b ss σ k=k (Bo true) σ:=(sameS_ok l hl).rule
theorem Xk {l:List Int}(hl:l.length≤1048576):callT G A1 [.lst (l.map I),.lst (l.map I)] fr roots b ss σ k=k (Bo true) σ:=(AgJ l hl).rule
end
structure SpSz (t:Spc):Prop where
 a:t.acts.length≤1048576
 s:t.S.length≤1048576
 x:∀i<t.S.length,t.S[i]!.A.length≤1048576∧t.S[i]!.X.length≤1048576
theorem Aih (s:Spc)(hs:SpSz s):FnT G Hu [eSp s,eSp s] (Bo true):=by
 refine FnP.mk' Zy rfl rfl ?_;simp only [go_sem,↓reduceIte,↓Aa,bne_self_eq_false,Si,eSp,AhN hs.a];refine Ad (fun (i:Nat) σ=>i≤s.S.length∧∃a c,σ=⟨aT .undef 53 [(3,.ptr 1 1 [] 0 0 0),(23,.lst (s.S.map eSt)),(24,I s.S.length),(25,I i)],[⟨1,0,.own 2 [.agg [.lst (s.acts.map .str),.lst (s.S.map eSt)]]⟩,⟨1,0,.own 2 [.agg [.lst (s.acts.map .str),.lst (s.S.map eSt)]]⟩,⟨a,c,.gone⟩],[]⟩) (fun i=>s.S.length-i) ?_ 0 ?_
 ·rintro i σ ⟨hi,a,c,rfl⟩ N Q hQ hN;have hS:=hs.s;by_cases hlt:i<s.S.length
  ·obtain ⟨h1,h2⟩:=hs.x i hlt;simp only [go_sem,↓reduceIte,↓Aa,bne_self_eq_false,eSt,Ab hlt (by omega),Int.ofNat_lt,hlt,Xk h1,Xk h2];refine hN (i+1) _ (by omega) ⟨by omega,?_⟩;simp only [go_sem,↓reduceIte,↓Aa,bne_self_eq_false];repeat apply Exists.intro
   rfl
  ·subst hQ;simp only [go_sem,↓reduceIte,↓Aa,bne_self_eq_false,Int.ofNat_lt,hlt]
 ·refine ⟨by omega,?_⟩;simp only [go_sem,↓reduceIte,↓Aa,bne_self_eq_false];repeat apply Exists.intro
  rfl
end Go.Mw
namespace Go.Mw
set_option maxRecDepth 100000
theorem FnP.flat {f:FuncId}{xs:List AV}(h:FnP G f xs fun rs h=>∃v,packV (treeBL 0 h rs)=Bo v∧rs.all AV.flats=true):∃v,FnT G f xs (Bo v):=by
 obtain ⟨F,n,rs,σ1,hf,h1,h2,h3,h4,hr,v,hR⟩:=h;exact ⟨v,F,n,rs,σ1,hf,h1,h2,h3,h4,hr,hR⟩
theorem Afx {l:List Ch}{most:Int}{p:Int→Bool}(h:choOk l most p=true):∀i<l.length,p l[i]!.N=true∧1≤l[i]!.W∧l[i]!.W<most∧(0<i→l[i-1]!.N<l[i]!.N):=by
 unfold choOk at h;rw [decide_eq_true_eq] at h;exact h
theorem Wk {l:List Ch}{pr:Nat}{p:Int→Bool}(hp:pr≤32)(h:choOk l ((2 ^ pr:Nat):Int) p=true):WOk l:=by
 intro i hi;obtain ⟨_,h1,h2,_⟩:=Afx h i hi;have h3:(2:Nat) ^ pr≤2 ^ 32:=Nat.pow_le_pow_right (by omega) hp;exact ⟨l[i]!.W.toNat,by omega,by omega⟩
theorem FamOk.w {f:Fam}(h:FamOk f):FWOk f:=by
 have h32:f.P.toNat≤32:=by have:=h.p2;omega
 exact ⟨fun i hi=>Wk h32 (h.plan i hi).acc,fun i hi j hj=>Wk h32 ((h.plan i hi).nxt j hj).1⟩
section
variable {fr:Bool}{roots:List Nat}{b:Nat}{ss:List Nat}{σ:St}{k:AV→St→Prop}
end
end Go.Mw
namespace Go.Mw
set_option maxRecDepth 100000
section
variable {fr:Bool}{roots:List Nat}{b:Nat}{ss:List Nat}{σ:St}{k:AV→St→Prop}
theorem AjI {s:Spc}(hs:SpSz s):callT G Hu [.agg [.lst (s.acts.map .str),.lst (s.S.map eSt)],.agg [.lst (s.acts.map .str),.lst (s.S.map eSt)]] fr roots b ss σ k=k (Bo true) σ:=(Aih s hs).rule
end
end Go.Mw
namespace Go.Mw
set_option maxRecDepth 100000
theorem nat_zero_bits {n:Nat}:n=0↔∀a,n.testBit a=false:=by
 constructor
 ·rintro rfl a;exact Nat.zero_testBit a
 ·intro h;exact Nat.eq_of_testBit_eq (fun a=>by rw [h a,Nat.zero_testBit])
theorem AcJ {m n:Nat}(hm:m<2 ^ 63)(hn:n<2 ^ 63):Afg .i64 (m:Int) (n:Int)=0↔∀a,¬(m.testBit a=true∧n.testBit a=true):=by
 rw [SB hm hn];have e:((m&&&n:Nat):Int)=0↔m&&&n=0:=by omega
 rw [e,nat_zero_bits];refine forall_congr' (fun a=>?_);rw [Nat.testBit_and];cases m.testBit a<;>cases n.testBit a<;>simp
def WM (l:List Ch):Prop:=∀c∈l,∃w:Nat,c.W=w∧w<2 ^ 62
theorem WOk.m {l:List Ch}(h:WOk l):WM l:=by
 intro c hc;obtain ⟨i,hi,rfl⟩:=List.mem_iff_getElem.1 hc;have:=h i hi;rwa [getElem!_pos l i hi] at this
def orN (l:List Ch):Nat:=l.foldl (fun s c=>s|||c.W.toNat) 0
theorem AdC {l:List Ch}(h:WM l):orAll l=(orN l:Int)∧orN l<2 ^ 62:=by
 have key:∀(l:List Ch) (s:Nat),WM l→s<2 ^ 62→l.foldl (fun s c=>bor .i64 s c.W) (s:Int)=((l.foldl (fun s c=>s|||c.W.toNat) s:Nat):Int)∧l.foldl (fun s c=>s|||c.W.toNat) s<2 ^ 62:=by
  intro l;induction l with
  | nil=>intro s _ hs;exact ⟨rfl,hs⟩
  | cons c l ih =>
    intro s hl hs;obtain ⟨w,hw,hw2⟩:=hl c (List.mem_cons_self ..);simp only [List.foldl_cons,hw,Int.toNat_natCast];rw [L5 (by omega) (by omega)];exact ih _ (fun d hd=>hl d (List.mem_cons_of_mem _ hd)) (Nat.or_lt_two_pow hs hw2)
 exact key l 0 h (by omega)
theorem Y1 {l:List Ch}{a:Nat}:(orN l).testBit a=true↔∃c∈l,c.W.toNat.testBit a=true:=by
 have key:∀(l:List Ch) (s:Nat),(l.foldl (fun s c=>s|||c.W.toNat) s).testBit a=true↔s.testBit a=true∨∃c∈l,c.W.toNat.testBit a=true:=by
  intro l;induction l with
  | nil=>intro s;simp
  | cons c l ih =>
    intro s;rw [List.foldl_cons,ih,Nat.testBit_or];simp [or_assoc]
 unfold orN;rw [key l 0];simp
def Aip (c d:Ch):Prop:=∀a,¬(c.W.toNat.testBit a=true∧d.W.toNat.testBit a=true)
theorem AeI {l:List Ch}(h:WM l):disj l=true↔l.Pairwise Aip:=by
 unfold disj;rw [decide_eq_true_eq,List.pairwise_iff_getElem];have step:∀k (hk:k<l.length),Afg .i64 (orAll (l.take k)) l[k]!.W=0↔∀c∈l.take k,Aip c l[k]:=by
  intro k hk;obtain ⟨w,hw,hw2⟩:=h l[k] (List.getElem_mem hk);obtain ⟨e,e2⟩:=AdC (l:=l.take k) (fun c hc=>h c (List.mem_of_mem_take hc));rw [getElem!_pos l k hk,e,hw,AcJ (by omega) (by omega)];constructor
  ·intro g c hc a hca;rw [hw,Int.toNat_natCast] at hca;exact g a ⟨Y1.2 ⟨c,hc,hca.1⟩,hca.2⟩
  ·intro g a ⟨h1,h2⟩;obtain ⟨c,hc,hca⟩:=Y1.1 h1;exact g c hc a ⟨hca,by rw [hw,Int.toNat_natCast];exact h2⟩
 constructor
 ·intro g i j hi hj hij;refine (step j hj).1 (g j hj) l[i] ?_;exact List.mem_take_iff_getElem.2 ⟨i,by omega,rfl⟩
 ·intro g k hk;refine (step k hk).2 (fun c hc=>?_);obtain ⟨i,hi,rfl⟩:=List.mem_take_iff_getElem.1 hc;exact g i k (by omega) hk (by omega)
end Go.Mw
