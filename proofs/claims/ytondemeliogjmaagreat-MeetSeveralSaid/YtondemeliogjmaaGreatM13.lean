/- What an operation leaves as it was: the shape of the nodes ahead of a place. -/
import Derived.Test.YtondemeliogjmaaGreatM12
set_option linter.unusedVariables false
set_option linter.unusedSimpArgs false
namespace Go.Mw
def shp:AV→Option (Nat×Nat)
 | .own es xs=>some (es,xs.length)
 | _=>none
theorem Agq (p:Path):∀(x v x':AV),(∀cs,v≠.agg cs)→upd x p v=some x'→∀q,¬p <+: q→(nav x' q).bind shp=(nav x q).bind shp:=by
 induction p with
 | nil=>intro x v x' _ h q hn;exact absurd List.nil_prefix hn
 | cons a p ih =>
   obtain ⟨i,j⟩:=a;intro x v x' hv h q hn;obtain ⟨es,xs,e,c,c',rfl,he,hc,hu,rfl⟩:=(FN ..).1 h;have hi:i<xs.length:=List.lt_of_some he;have hj:j<e.cells.length:=List.lt_of_some hc;have hc':∀cs,c'≠.agg cs:=by
    cases p with
    | nil=>rw [Ha] at hu;cases hu;exact hv
    | cons a p =>
      obtain ⟨i',j'⟩:=a;obtain ⟨_,_,_,_,_,_,_,_,_,rfl⟩:=(FN ..).1 hu;intro cs h;cases h
   have hcs:=Dv e j c' hc';cases q with
   | nil=>simp only [nav_nil,Option.bind_some,shp,List.length_set]
   | cons b q =>
     obtain ⟨i',j'⟩:=b;by_cases ei:i'=i
     ·subst ei;simp only [nav,List.getElem?_set_self hi,he];rw [hcs.2 hj j'];by_cases ej:j'=j
      ·subst ej;rw [if_pos rfl,hc];exact ih _ _ _ hv hu q (fun hpq=>hn (by obtain ⟨t,rfl⟩:=hpq;exact ⟨t,rfl⟩))
      ·rw [if_neg ej]
     ·simp only [nav,List.getElem?_set_ne (fun h=>ei h.symm)]
def Sd:AV→Option (List (AV×AV))
 | .ownm es=>some es
 | _=>none
theorem Agm (p:Path):∀(x v x':AV),(∀cs,v≠.agg cs)→upd x p v=some x'→∀q,¬p <+: q→(nav x' q).bind Sd=(nav x q).bind Sd:=by
 induction p with
 | nil=>intro x v x' _ h q hn;exact absurd List.nil_prefix hn
 | cons a p ih =>
   obtain ⟨i,j⟩:=a;intro x v x' hv h q hn;obtain ⟨es,xs,e,c,c',rfl,he,hc,hu,rfl⟩:=(FN ..).1 h;have hi:i<xs.length:=List.lt_of_some he;have hj:j<e.cells.length:=List.lt_of_some hc;have hc':∀cs,c'≠.agg cs:=by
    cases p with
    | nil=>rw [Ha] at hu;cases hu;exact hv
    | cons a p =>
      obtain ⟨i',j'⟩:=a;obtain ⟨_,_,_,_,_,_,_,_,_,rfl⟩:=(FN ..).1 hu;intro cs h;cases h
   have hcs:=Dv e j c' hc';cases q with
   | nil=>simp only [nav_nil,Option.bind_some,Sd]
   | cons b q =>
     obtain ⟨i',j'⟩:=b;by_cases ei:i'=i
     ·subst ei;simp only [nav,List.getElem?_set_self hi,he];rw [hcs.2 hj j'];by_cases ej:j'=j
      ·subst ej;rw [if_pos rfl,hc];exact ih _ _ _ hv hu q (fun hpq=>hn (by obtain ⟨t,rfl⟩:=hpq;exact ⟨t,rfl⟩))
      ·rw [if_neg ej]
     ·simp only [nav,List.getElem?_set_ne (fun h=>ei h.symm)]
def atO (q:Path)(o:Ob):Nat×Nat×Option (Nat×Nat):=(o.st,o.ss,(nav o.c q).bind shp)
theorem AeP {h h':List Ob}{r:Nat}{p:Path}{v:AV}(hv:∀cs,v≠.agg cs)(hs:setOb h r p v false=some h'){q:Path}(hq:¬p <+: q)(r':Nat):(h'[r']?).map (atO q)=(h[r']?).map (atO q):=by
 obtain ⟨o,c,h1,h2,rfl⟩:=CG hs;by_cases e:r=r'
 ·subst e;rw [List.getElem?_set_self (List.lt_of_some h1),h1];simp only [Option.map_some,atO,Bool.false_eq_true,if_false,Agq p _ _ _ hv h2 q hq]
 ·rw [List.getElem?_set_ne e]
theorem gone_ne:∀cs,AV.gone≠.agg cs:=by intro cs h;cases h
theorem appY_at {h h':List Ob}{es:Nat}{y:AV}{ys:List AV}(hs:appY h es y=some (ys,h')){r:Nat}(hr:r∉rootsOf y):h'[r]? = h[r]? := by
 cases y<;>simp only [appY,reduceCtorEq,Option.some.injEq,Prod.mk.injEq] at hs
 case nils=>rw [hs.2]
 case emp=>rw [hs.2]
 case ne=>rw [hs.2]
 case lst xs =>
  split at hs
  ·simp only [Option.some.injEq,Prod.mk.injEq] at hs;rw [hs.2]
  ·cases hs
 case sl r0 st p ss off len =>
  have hne:r0≠r:=fun e=>hr (by simp [rootsOf,e]);split at hs
  ·split at hs
   ·simp only [Option.some.injEq,Prod.mk.injEq] at hs;rw [hs.2]
   ·split at hs
    ·cases hso:setOb h r0 p .gone false with
     | none=>simp [hso] at hs
     | some hh =>
       simp only [hso,Option.map_some,Option.some.injEq,Prod.mk.injEq] at hs;obtain ⟨o,c,h1,h2,rfl⟩:=CG hso;rw [←hs.2,List.getElem?_set_ne hne]
    ·cases hs
  ·cases hs
theorem appX_at {h h':List Ob}{es:Nat}{x:AV}{xs:List AV}(hs:appX h es x=some (xs,h')){r:Nat}{q:Path}(hr:∀st p ss off len,x = .sl r st p ss off len→¬p <+: q):(h'[r]?).map (atO q)=(h[r]?).map (atO q):=by
 unfold appX at hs;split at hs
 ·simp only [Option.some.injEq,Prod.mk.injEq] at hs;rw [hs.2]
 ·simp only [Option.some.injEq,Prod.mk.injEq] at hs;rw [hs.2]
 ·simp only [Option.some.injEq,Prod.mk.injEq] at hs;rw [hs.2]
 ·rename_i r0 st p ss off len;split at hs
  ·split at hs
   ·cases hso:setOb h r0 p .gone false with
    | none=>simp [hso] at hs
    | some hh =>
      simp only [hso,Option.map_some,Option.some.injEq,Prod.mk.injEq] at hs;rw [←hs.2];by_cases e:r0=r
      ·subst e;exact AeP gone_ne hso (hr _ _ _ _ _ rfl) _
      ·obtain ⟨o,c,h1,h2,rfl⟩:=CG hso;rw [List.getElem?_set_ne e]
   ·cases hs
  ·cases hs
 ·cases hs
theorem app_at {b s es bytes:Nat}{x y:Opd}{σ:St}{v:AV}{h':List Ob}(hx:ax b (.app s es bytes x y) σ=some (v,h')){r:Nat}{q:Path}(h1:r≠b+s)(h2:r∉rootsOf (σ.get y))(h3:∀st p ss off len,σ.get x = .sl r st p ss off len→¬p <+: q) :
 (h'[r]?).map (atO q)=(σ.h[r]?).map (atO q):=by
 simp only [ax] at hx;cases hy:appY σ.h es (σ.get y) with
 | none=>simp [hy] at hx
 | some py =>
   obtain ⟨ys,ha⟩:=py;simp only [hy] at hx;cases hxx:appX ha es (σ.get x) with
   | none=>simp [hxx] at hx
   | some px =>
     obtain ⟨xs,hb⟩:=px;simp only [hxx] at hx;have e1:=appY_at hy h2;have e2:=appX_at hxx h3;rw [e1] at e2;split at hx
     ·split at hx<;>first|(simp only [Option.some.injEq,Prod.mk.injEq] at hx;rw [←hx.2];exact e2)|cases hx
     ·split at hx
      ·cases hn:newOb hb (b+s) (.own es (xs++ys)) with
       | none=>simp [hn] at hx
       | some pn =>
         obtain ⟨hc,st⟩:=pn;simp only [hn,Option.some.injEq,Prod.mk.injEq] at hx;obtain ⟨o,_,_,_,rfl⟩:=BC hn;rw [←hx.2,List.getElem?_set_ne (fun e=>h1 e.symm)];exact e2
      ·cases hx
theorem node_at_shape {h k:List Ob}{r st ss:Nat}{p:Path}{es:Nat}{xs:List AV}(hn:node h r st p ss=some (.own es xs))(ha:(k[r]?).map (atO p)=(h[r]?).map (atO p)):∃ys,node k r st p ss=some (.own es ys)∧ys.length=xs.length:=by
 rw [BG] at hn;obtain ⟨o,h1,h2,h3,h4⟩:=hn;rw [h1,Option.map_some] at ha;cases hk:k[r]? with
 | none=>simp [hk] at ha
 | some o' =>
   simp only [hk,Option.map_some,Option.some.injEq,atO,Prod.mk.injEq,h4,Option.bind_some,shp] at ha;obtain ⟨a1,a2,a3⟩:=ha;cases hnv:nav o'.c p with
   | none=>simp [hnv] at a3
   | some nd =>
     simp only [hnv,Option.bind_some] at a3;cases nd<;>simp only [shp,reduceCtorEq,Option.some.injEq,Prod.mk.injEq] at a3;rename_i es' ys;obtain ⟨rfl,hl⟩:=a3;refine ⟨ys,BG.2 ⟨o',hk,by rw [a1];exact h2,?_,hnv⟩,hl⟩;rcases h3 with h3|h3
     ·exact .inl h3
     ·exact .inr (by rw [a2];exact h3)
def Aej (i:Ins)(σ:St):Option (Nat×Path) :=
 match i with
 | .fad _ x=>match σ.get x with
   | .ptr r _ p _ _ _=>some (r,p)
   | _=>none
 | .iad _ x _=>match σ.get x with
   | .sl r _ p _ _ _=>some (r,p)
   | _=>none
 | _=>none
theorem AhC {b:Nat}{i:Ins}{σ τ:St}{r:Nat}{p:Path}(hl:Aej i σ=some (r,p))(ho:∀x∈i.opds,τ.get x=σ.get x){v:AV}{h':List Ob}(hx:ax b i σ=some (v,h'))(ha:(τ.h[r]?).map (atO p)=(σ.h[r]?).map (atO p)):h'=σ.h∧ax b i τ=some (v,τ.h):=by
 cases i<;>simp only [Aej,reduceCtorEq] at hl
 case fad off x =>
  have hox:=ho x (by simp [Ins.opds]);simp only [ax,hox] at hx ⊢;cases hg:σ.get x<;>simp only [hg,reduceCtorEq,Option.some.injEq,Prod.mk.injEq] at hl hx ⊢;rename_i r' st p' ss i j;obtain ⟨e1,e2⟩:=hl;rw [←e1,←e2] at ha;cases hn:node σ.h r' st p' ss with
  | none=>simp [hn] at hx
  | some nd =>
    cases nd<;>simp only [hn,reduceCtorEq,Option.some.injEq,Prod.mk.injEq] at hx;obtain ⟨ys,e3,_⟩:=node_at_shape hn ha;rw [e3];exact ⟨hx.2.symm,by simp only [hx.1]⟩
 case iad es x k =>
  have hox:=ho x (by simp [Ins.opds]);have hok:=ho k (by simp [Ins.opds]);simp only [ax,hox,hok] at hx ⊢;cases hg:σ.get x<;>simp only [hg,reduceCtorEq,Option.some.injEq,Prod.mk.injEq] at hl hx ⊢;rename_i r' st p' ss off len;obtain ⟨e1,e2⟩:=hl;rw [←e1,←e2] at ha;cases hk:σ.get k<;>simp only [hk,reduceCtorEq] at hx ⊢;rename_i kk n;split at hx
  ·rename_i hc;rw [if_pos hc];cases hn:node σ.h r' st p' ss with
   | none=>simp [hn] at hx
   | some nd =>
     cases nd<;>simp only [hn,reduceCtorEq] at hx;obtain ⟨ys,e3,_⟩:=node_at_shape hn ha;rw [e3];simp only;split at hx
     ·rename_i he;rw [if_pos he];simp only [Option.some.injEq,Prod.mk.injEq] at hx;exact ⟨hx.2.symm,by rw [hx.1]⟩
     ·cases hx
  ·cases hx
theorem ld_at {b:Nat}{a:Opd}{σ τ:St}{r st ss i j es:Nat}{p:Path}{xs:List AV}(hg:σ.get a = .ptr r st p ss i j)(hg2:τ.get a = .ptr r st p ss i j)(hc:nodeAt σ.h r (p++[(i,j)])=some (.own es xs)){v:AV}{h':List Ob}(hx:ax b (.ld false 1 a) σ=some (v,h'))
 (ha:(τ.h[r]?).map (atO (p++[(i,j)]))=(σ.h[r]?).map (atO (p++[(i,j)]))):h'=σ.h∧ax b (.ld false 1 a) τ=some (v,τ.h):=by
 have key:∀ {h:List Ob}{o:Ob}{ys:List AV},h[r]? = some o→o.st=st→(p = []∨o.ss=ss)→nav o.c (p++[(i,j)])=some (.own es ys) →
  ∃(es1:Nat) (xs1:List AV) (e:AV),node h r st p ss=some (.own es1 xs1)∧xs1[i]? = some e∧j+1≤e.cells.length∧(e.cells.drop j).take 1 = [AV.own es ys]:=by
  intro h o ys h1 h2 h3 h4;obtain ⟨nd,g1,g2⟩:=UA p [(i,j)] _ _ h4;obtain ⟨es',xs',e,c,rfl,he,hc,hq⟩:=(AO ..).1 g2;rw [nav_nil] at hq;cases hq;have hj:j<e.cells.length:=List.lt_of_some hc;refine ⟨es',xs',e,BG.2 ⟨o,h1,h2,h3,g1⟩,he,hj,?_⟩;rw [List.drop_eq_getElem_cons hj];rw [List.getElem?_eq_getElem hj] at hc;simp only [Option.some.injEq] at hc;simp [hc]
 simp only [ax,hg,hg2] at hx ⊢;obtain ⟨o,h1,h4⟩:=Ad.1 hc;cases hn:node σ.h r st p ss with
 | none=>simp [hn] at hx
 | some nd =>
   obtain ⟨o2,q1,q2,q3,_⟩:=BG.1 hn;rw [h1] at q1;cases q1;obtain ⟨es1,xs1,e,k1,k2,k3,k4⟩:=key h1 q2 q3 h4;rw [h1] at ha;cases hk:τ.h[r]? with
   | none=>simp [hk] at ha
   | some o' =>
     simp only [hk,Option.map_some,Option.some.injEq,atO,Prod.mk.injEq,h4,Option.bind_some,shp] at ha;obtain ⟨a1,a2,a3⟩:=ha;cases hnv:nav o'.c (p++[(i,j)]) with
     | none=>simp [hnv] at a3
     | some nd' =>
       simp only [hnv,Option.bind_some] at a3;cases nd'<;>simp only [shp,reduceCtorEq,Option.some.injEq,Prod.mk.injEq] at a3;rename_i es' ys;obtain ⟨rfl,hl⟩:=a3;obtain ⟨es2,xs2,e',m1,m2,m3,m4⟩:=key hk (by rw [a1];exact q2) (by rw [a2];exact q3) hnv;rw [k1] at hn;cases hn;simp only [k1,h1,k2,k3,if_true,k4,outL,outv,Bool.false_eq_true,if_false,Option.some.injEq,Prod.mk.injEq] at hx;simp only [m1,m2,m3,if_true,m4,outL,outv,Bool.false_eq_true,if_false,Option.some.injEq,Prod.mk.injEq,and_true];exact ⟨hx.2.symm,by rw [hl,a2];exact hx.1⟩
def Ty (kk:KK)(z:AV)(es:List (AV×AV))(k:AV):Option AV:=match findK kk k es with
 | some (some i)=>(es[i]?).map (·.2)
 | some none=>some z
 | none=>none
def Zx (kk:KK)(z:AV)(p:Path)(o:Ob):Nat×Nat×Option (AV→Option AV):=(o.st,o.ss,((nav o.c p).bind Sd).map (Ty kk z))
inductive Loc where
 | tmp (n:Nat)|root (r:Nat)|lps|view (r:Nat) (p:Path) (kk:KK) (z:AV)|shp (r:Nat) (q:Path)
inductive Vl where
 | t (o:Option AV)|r (o:Option Ob)|l (x:List Lp)|v  (o:Option (Nat×Nat×Option (AV→Option AV)))|a (o:Option (Nat×Nat×Option (Nat×Nat)))
def valS (σ:St):Loc→Vl
 | .tmp n=>.t σ.t[n]?
 | .root r=>.r σ.h[r]?
 | .lps=>.l σ.lp
 | .view r p kk z=>.v ((σ.h[r]?).map (Zx kk z p))
 | .shp r q=>.a ((σ.h[r]?).map (atO q))
theorem Yd {σ τ:St}(h:∀x,valS σ x=valS τ x):σ=τ:=by
 obtain ⟨t,hh,l⟩:=σ;obtain ⟨t',hh',l'⟩:=τ;have h1:t=t':=List.ext_getElem? fun n=>by have:=h (.tmp n);simpa [valS] using this
 have h2:hh=hh':=List.ext_getElem? fun n=>by have:=h (.root n);simpa [valS] using this
 have h3:l=l':=by have:=h .lps;simpa [valS] using this
 rw [h1,h2,h3]
def ropE (f:Ins→Nat→St→Option (AV×St))(b:Nat)(r:Rop)(σ:St):Option St :=
 match wantedO r.g σ with
 | some true=>match f r.i b σ with
   | some (v,σ1)=>some (σ1.put r.d v)
   | none=>none
 | some false=>some (σ.put r.d (.tup []))
 | none=>none
theorem Ac2 (f:Ins→Nat→St→Option (AV×St))(b:Nat)(r:Rop)(rs:List Rop)(σ:St):J5 f (r::rs) b σ=match ropE f b r σ with
 | some σ1=>J5 f rs b σ1
 | none=>none:=by
 simp only [J5,ropE];cases wantedO r.g σ with
 | none=>rfl
 | some w =>
   cases w with
   | false=>rfl
   | true=>simp only [];cases f r.i b σ with
     | none=>rfl
     | some p=>rfl
def RS (G:Prg)(b:Nat)(r:Rop)(σ:St):Option (List Nat) :=
 match wantedO r.g σ with
 | some true=>foot G b r.i σ
 | _=>some []
theorem Adj (G:Prg)(f:Ins→Nat→St→Option (AV×St))(b:Nat)(r:Rop)(rs:List Rop)(σ:St){σ':St}{fs:List (Option (List Nat))}(h:drwE G f (r::rs) b σ=some (σ',fs)) :
 ∃σ1 fs',ropE f b r σ=some σ1∧drwE G f rs b σ1=some (σ',fs')∧fs=RS G b r σ::fs':=by
 simp only [drwE] at h;split at h
 ·rename_i hw;split at h
  ·rename_i v σ1 hf;split at h
   ·rename_i σ2 fs' hd;simp only [Option.some.injEq,Prod.mk.injEq] at h;obtain ⟨rfl,rfl⟩:=h;exact ⟨σ1.put r.d v,fs',by simp only [ropE,hw,hf],hd,by simp only [RS,hw]⟩
   ·cases h
  ·cases h
 ·rename_i hw;split at h
  ·rename_i σ2 fs' hd;simp only [Option.some.injEq,Prod.mk.injEq] at h;obtain ⟨rfl,rfl⟩:=h;exact ⟨σ.put r.d (.tup []),fs',by simp only [ropE,hw],hd,by simp only [RS,hw]⟩
  ·cases h
 ·cases h
theorem drwE_run (G:Prg)(f:Ins→Nat→St→Option (AV×St))(b:Nat):∀(rs:List Rop) (σ σ':St) (fs:List (Option (List Nat))),drwE G f rs b σ=some (σ',fs) →
 ∃st:Nat→St,st 0=σ∧st rs.length=σ'∧fs.length=rs.length∧(∀k r,rs[k]? = some r→ropE f b r (st k)=some (st (k+1))∧fs[k]? = some (RS G b r (st k)))∧(∀k r,rs[k]? = some r→wantedO r.g (st k)=some true→(RC f rs b σ)[k]? = some (sftI b r.i (st k))):=by
 intro rs;induction rs with
 | nil =>
   intro σ σ' fs h;simp only [drwE,Option.some.injEq,Prod.mk.injEq] at h;obtain ⟨rfl,rfl⟩:=h;exact ⟨fun _=>σ,rfl,rfl,rfl,fun k r h=>by simp at h,fun k r h=>by simp at h⟩
 | cons r rs ih =>
   intro σ σ' fs h;obtain ⟨σ1,fs',h1,h2,rfl⟩:=Adj G f b r rs σ h;obtain ⟨st,s0,sN,hl,hst,hsf⟩:=ih σ1 σ' fs' h2;refine ⟨fun k=>match k with|0=>σ|k+1=>st k,rfl,sN,by simp [hl],fun k r' hk=>?_,fun k r' hk hw=>?_⟩
   ·cases k with
    | zero=>simp at hk;subst hk;exact ⟨by rw [h1,←s0],rfl⟩
    | succ k=>exact hst k r' (by simpa using hk)
   ·have hs:∀w,wantedO r.g σ=some w→RC f (r::rs) b σ=(if w then sftI b r.i σ else .no)::RC f rs b σ1:=by
     intro w hw;simp only [ropE,hw] at h1;simp only [RC,hw];cases w with
     | false=>simp only [Option.some.injEq] at h1;subst h1;rfl
     | true =>
       simp only at h1 ⊢;cases hf:f r.i b σ with
       | none=>simp [hf] at h1
       | some p=>simp only [hf,Option.some.injEq] at h1;subst h1;rfl
    cases k with
    | zero=>simp at hk;subst hk;simp only at hw;rw [hs _ hw];rfl
    | succ k =>
      cases hw0:wantedO r.g σ with
      | none=>simp [ropE,hw0] at h1
      | some w=>rw [hs _ hw0];exact hsf k r' (by simpa using hk) hw
theorem AgX {G:Prg}{n:Nat}{f:FuncId}{xs:List AV}{b:Nat}{ss:List Nat}{σ σ':St}{v:AV}(t:List AV)(h:callF G n f xs b ss σ=some (v,σ')):callF G n f xs b ss { σ with t }=some (v,{ σ' with t })∧σ'.t=σ.t:=by
 cases n with
 | zero=>simp [callF] at h
 | succ n =>
   simp only [callF] at h ⊢;cases hF:G f with
   | none=>simp [hF] at h
   | some F =>
     simp only [hF] at h ⊢;split at h
     ·rename_i hl;rw [if_pos hl];split at h
      ·rename_i hp;rw [if_pos hp];by_cases hsp:splits F (treeBL 0 σ.h xs)=true
       ·rw [if_pos hsp] at h ⊢;split at h
        ·split at h
         ·rename_i hv;simp only [Option.some.injEq,Prod.mk.injEq] at h;obtain ⟨rfl,rfl⟩:=h;exact ⟨by first|rfl|simp only [hv,if_true],rfl⟩
         ·cases h
        ·cases h
       rw [if_neg hsp] at h ⊢;split at h
       ·rename_i rr σ1 hr
        try simp only [hr]
        split at h
        ·rename_i v1 hh hg;simp only [Option.some.injEq,Prod.mk.injEq] at h;obtain ⟨rfl,rfl⟩:=h;exact ⟨by simp only [hg],rfl⟩
        ·cases h
       ·cases h
      ·rename_i hp;rw [if_neg hp];split at h
       ·rename_i rr σ1 hr
        try simp only [hr]
        split at h
        ·rename_i v1 hh hg;simp only [Option.some.injEq,Prod.mk.injEq] at h;obtain ⟨rfl,rfl⟩:=h;exact ⟨by simp only [hg],rfl⟩
        ·cases h
       ·cases h
     ·cases h
theorem yieldF_t {G:Prg}{n l:Nat}{xs:List AV}{σ σ':St}{v:AV}(t:List AV)(h:yieldF G n l xs σ=some (v,σ')):yieldF G n l xs { σ with t }=some (v,{ σ' with t })∧σ'.t=σ.t:=by
 cases n with
 | zero=>simp [yieldF] at h
 | succ n =>
   simp only [yieldF] at h ⊢;cases hl:σ.lp[l]? with
   | none=>simp [hl] at h
   | some lp =>
     simp only [hl] at h ⊢;split at h
     ·rename_i hc;rw [if_pos hc];split at h
      ·rename_i σ1 h1
       try simp only [h1]
       split at h
       ·rename_i lp1 h2
        try simp only [h2]
        split at h
        ·rename_i hc2;rw [if_pos hc2];split at h
         ·rename_i e σ2 h3
          try simp only [h3]
          split at h
          ·rename_i lp2 h4
           try simp only [h4]
           simp only [Option.some.injEq,Prod.mk.injEq] at h;obtain ⟨rfl,rfl⟩:=h;exact ⟨rfl,rfl⟩
          ·cases h
         ·cases h
        ·cases h
       ·cases h
      ·cases h
     ·cases h
def footL (fo:Option (List Nat)):Loc→Prop
 | .tmp _=>False
 | .root r=>match fo with
   | some fs=>r∈fs
   | none=>True
 | .lps=>fo=none
 | .view r _ _ _=>match fo with
   | some fs=>r∈fs
   | none=>True
 | .shp r _=>match fo with
   | some fs=>r∈fs
   | none=>True
theorem AcV {G:Prg}{n:Nat}{i:Ins}{b:Nat}{σ σ1 τ:St}{v:AV}(hx:evO G n i b σ=some (v,σ1))(ho:∀x∈i.opds,τ.get x=σ.get x)(hf:∀x,footL (foot G b i σ) x→valS τ x=valS σ x) :
 ∃τ1,evO G n i b τ=some (v,τ1)∧τ1.t=τ.t∧σ1.t=σ.t∧(∀x,footL (foot G b i σ) x→valS τ1 x=valS σ1 x)∧(∀x,¬(footL (foot G b i σ) x∧i.calm=false)→valS τ1 x=valS τ x):=by
 have whole:foot G b i σ=none→τ = { σ with t:=τ.t }:=by
  intro hn;refine Yd (fun x=>?_);cases x with
  | tmp n=>rfl
  | root r=>exact hf (.root r) (by simp [footL,hn])
  | lps=>exact hf .lps (by simp [footL,hn])
  | view r p kk z=>exact hf (.view r p kk z) (by simp [footL,hn])
  | shp r kk=>exact hf (.shp r kk) (by simp [footL,hn])
 have wholeFin:foot G b i σ=none→evO G n i b τ=some (v,{ σ1 with t:=τ.t })→σ1.t=σ.t→i.calm=false→∃τ1,evO G n i b τ=some (v,τ1)∧τ1.t=τ.t∧σ1.t=σ.t∧(∀x,footL (foot G b i σ) x→valS τ1 x=valS σ1 x)∧(∀x,¬(footL (foot G b i σ) x∧i.calm=false)→valS τ1 x=valS τ x):=by
  intro hn h1 h2 h3;refine ⟨_,h1,rfl,h2,fun x hx=>?_,fun x hx=>?_⟩
  ·cases x with
   | tmp n=>exact hx.elim
   | root r=>rfl
   | lps=>rfl
   | view r p kk z=>rfl
   | shp r kk=>rfl
  ·cases x with
   | tmp n=>rfl
   | root r=>exact absurd ⟨by simp [footL,hn],h3⟩ hx
   | lps=>exact absurd ⟨by simp [footL,hn],h3⟩ hx
   | view r p kk z=>exact absurd ⟨by simp [footL,hn],h3⟩ hx
   | shp r kk=>exact absurd ⟨by simp [footL,hn],h3⟩ hx
 have named:∀(rs:List Nat) (k':List Ob),foot G b i σ=some rs→evO G n i b τ=some (v,{ τ with h:=k' })→Hz rs σ1.h τ.h k'→σ1.t=σ.t→(i.calm=true→k'=τ.h)→∃τ1,evO G n i b τ=some (v,τ1)∧τ1.t=τ.t∧σ1.t=σ.t∧(∀x,footL (foot G b i σ) x→valS τ1 x=valS σ1 x)∧(∀x,¬(footL (foot G b i σ) x∧i.calm=false)→valS τ1 x=valS τ x):=by
  intro rs k' hn h1 h2 h3 h4;refine ⟨_,h1,rfl,h3,fun x hx=>?_,fun x hx=>?_⟩
  ·cases x with
   | tmp n=>exact hx.elim
   | root r=>simp only [valS];rw [h2.1 r (by simpa [footL,hn] using hx)]
   | lps=>simp [footL,hn] at hx
   | view r p kk z=>simp only [valS];rw [h2.1 r (by simpa [footL,hn] using hx)]
   | shp r kk=>simp only [valS];rw [h2.1 r (by simpa [footL,hn] using hx)]
  ·cases x with
   | tmp n=>rfl
   | root r =>
     simp only [valS];cases hc:i.calm with
     | true=>rw [h4 hc]
     | false =>
       rw [h2.2 r (fun hr=>hx ⟨by simp only [footL,hn];exact hr,hc⟩)]
   | lps=>rfl
   | view r p kk z =>
     simp only [valS];cases hc:i.calm with
     | true=>rw [h4 hc]
     | false =>
       rw [h2.2 r (fun hr=>hx ⟨by simp only [footL,hn];exact hr,hc⟩)]
   | shp r kk =>
     simp only [valS];cases hc:i.calm with
     | true=>rw [h4 hc]
     | false =>
       rw [h2.2 r (fun hr=>hx ⟨by simp only [footL,hn];exact hr,hc⟩)]
 have alike:∀rs,foot G b i σ=some rs→Hm rs σ.h τ.h:=by
  intro rs hn r hr;have:=hf (.root r) (by simp only [footL,hn];exact hr);simpa [valS] using this
 cases n with
 | zero=>simp [evO] at hx
 | succ n =>
   have plainOp:(∀τ:St,evO G (n+1) i b τ=match ax b i τ with
    | some (v,h)=>some (v,{ τ with h })
    | none=>none)→(foot G b i σ=if i.dry then some [] else some (i.sites.map (b + ·)++rootsL (σ.gets i.opds)))→∃τ1,evO G (n+1) i b τ=some (v,τ1)∧τ1.t=τ.t∧σ1.t=σ.t∧(∀x,footL (foot G b i σ) x→valS τ1 x=valS σ1 x)∧(∀x,¬(footL (foot G b i σ) x∧i.calm=false)→valS τ1 x=valS τ x):=by
    intro hev hft;rw [hev] at hx;cases hax:ax b i σ with
    | none=>simp [hax] at hx
    | some p =>
      obtain ⟨v1,h1⟩:=p;simp only [hax,Option.some.injEq,Prod.mk.injEq] at hx;obtain ⟨rfl,rfl⟩:=hx;by_cases hd:i.dry=true
      ·rw [if_pos hd] at hft;obtain ⟨g,g1,g2⟩:=Ac1 hd b σ τ ho;rw [hax] at g1;cases g with
       | none=>cases g1
       | some u =>
         simp only [Option.map_some,Option.some.injEq,Prod.mk.injEq] at g1;obtain ⟨rfl,rfl⟩:=g1;exact named [] τ.h hft (by rw [hev,g2];rfl) ⟨fun r hr=>(by cases hr),fun _ _=>rfl⟩ rfl (fun _=>rfl)
      ·rw [if_neg hd] at hft;have hal:=alike _ hft;have hnm:∀x∈i.opds,Named (i.sites.map (b + ·)++rootsL (σ.gets i.opds)) (σ.get x):=by
        intro x hx r hr;refine List.mem_append.2 (.inr (Ey (x:=σ.get x) ?_ hr));exact List.mem_map.2 ⟨x,hx,rfl⟩
       cases hc:i.calm with
       | true =>
         obtain ⟨g,g1,g2⟩:=AdR hc b σ τ hal ho hnm;rw [hax] at g1;cases g with
         | none=>cases g1
         | some u =>
           simp only [Option.map_some,Option.some.injEq,Prod.mk.injEq] at g1;obtain ⟨rfl,rfl⟩:=g1;have:=named _ τ.h hft (by rw [hev,g2];rfl) (Hz.refl hal) rfl (fun _=>rfl);rw [hc] at this;exact this
       | false =>
         obtain ⟨k',e1,e2⟩:=AhR hc hal ho hnm (fun s hs=>List.mem_append.2 (.inl (List.mem_map.2 ⟨s,hs,rfl⟩))) hax;have:=named _ k' hft (by rw [hev,e1]) e2 rfl (fun h=>by rw [hc] at h;cases h);rw [hc] at this;exact this
   have callOp:∀(f:FuncId) (xs:List AV) (ss:List Nat),evO G (n+1) i b σ=callF G n f xs b ss σ→evO G (n+1) i b τ=callF G n f xs b ss τ→(foot G b i σ=match G f with
    | some F=>if F.pure then some (ss.map (b + ·)++rootsL xs) else none
    | none=>none)→i.calm=false→∃τ1,evO G (n+1) i b τ=some (v,τ1)∧τ1.t=τ.t∧σ1.t=σ.t∧(∀x,footL (foot G b i σ) x→valS τ1 x=valS σ1 x)∧(∀x,¬(footL (foot G b i σ) x∧i.calm=false)→valS τ1 x=valS τ x):=by
    intro f xs ss h1 h2 hft hc;rw [h1] at hx;have nonp:foot G b i σ=none→∃τ1,evO G (n+1) i b τ=some (v,τ1)∧τ1.t=τ.t∧σ1.t=σ.t∧(∀x,footL (foot G b i σ) x→valS τ1 x=valS σ1 x)∧(∀x,¬(footL (foot G b i σ) x∧i.calm=false)→valS τ1 x=valS τ x):=by
     intro hn;obtain ⟨k1,k2⟩:=AgX τ.t hx;exact wholeFin hn (by rw [h2,whole hn];exact k1) k2 hc
    cases hG:G f with
    | none=>exact nonp (by rw [hft,hG])
    | some F =>
      cases hp:F.pure with
      | false=>exact nonp (by rw [hft,hG];simp [hp])
      | true =>
        have hft':foot G b i σ=some (ss.map (b + ·)++rootsL xs):=by rw [hft,hG];simp [hp]
        obtain ⟨k',e1,e2,e3⟩:=AbH hG hp (alike _ hft') (fun r hr=>List.mem_append.2 (.inr hr)) (fun s hs=>List.mem_append.2 (.inl (List.mem_map.2 ⟨s,hs,rfl⟩))) hx;exact named _ k' hft' (by rw [h2];exact e1) e2 (by rw [e3]) (fun h=>by rw [hc] at h;cases h)
   cases i
   case call f az' ss=>exact callOp f (σ.gets az') ss rfl (by simp only [evO];rw [show τ.gets az'=σ.gets az' from Lr ho]) rfl rfl
   case calv x az' ss =>
    have hxx:τ.get x=σ.get x:=ho x (by simp [Ins.opds]);have hgg:τ.gets az'=σ.gets az':=Lr (fun y hy=>ho y (by simp [Ins.opds,hy]));cases hg:σ.get x
    case fn f cs=>exact callOp f (σ.gets az'++cs) ss (by simp only [evO,hg]) (by simp only [evO,hxx,hg,hgg]) (by simp only [foot,hg];cases G f<;>rfl) rfl
    case yld l =>
     have hn:foot G b (.calv x az' ss) σ=none:=by simp only [foot,hg]
     have h1:evO G (n+1) (.calv x az' ss) b σ=yieldF G n l (σ.gets az') σ:=by simp only [evO,hg]
     rw [h1] at hx;obtain ⟨k1,k2⟩:=yieldF_t τ.t hx;refine wholeFin hn ?_ k2 rfl;simp only [evO,hxx,hg,hgg];rw [whole hn];exact k1
    all_goals (simp [evO,hg] at hx)
   all_goals exact plainOp (fun _=>rfl) rfl
theorem TQ {q:Nat}{a b:AV}{u v:Bool}(ha:De q a a=some u)(hb:De q b b=some v)(h1:a.c64=true)(h2:b.c64=true):(De q a b).isSome=true:=by
 match q,a,b,ha,hb,h1,h2 with
 | 0,.bool _,.bool _,_,_,_,_=>rfl
 | 1,.int κ _,.int κ' _,_,_,h1,h2 =>
   simp only [AV.c64,beq_iff_eq] at h1 h2;subst h1;subst h2;simp [De]
 | 2,.str _,.str _,_,_,_,_=>rfl
theorem Rq:∀ {qs:List Nat}{xs ys:List AV}{u v:Bool},eqCells qs xs xs=some u→eqCells qs ys ys=some v→xs.all AV.c64=true→ys.all AV.c64=true→(eqCells qs xs ys).isSome=true
 | [],[],[],_,_,_,_,_,_=>rfl
 | [],[],_::_,_,_,_,h,_,_=>by simp [eqCells] at h
 | [],_::_,_,_,_,h,_,_,_=>by simp [eqCells] at h
 | _::_,[],_,_,_,h,_,_,_=>by simp [eqCells] at h
 | _::_,_::_,[],_,_,_,h,_,_=>by simp [eqCells] at h
 | q::qs,x::xs,y::ys,u,v,h1,h2,h3,h4=>by
   simp only [List.all_cons,Bool.and_eq_true] at h3 h4;have key:∀ {a:AV}{l:List AV}{w:Bool},eqCells (q::qs) (a::l) (a::l)=some w→(∃u',De q a a=some u')∧∃v',eqCells qs l l=some v':=by
    intro a l w h;simp only [eqCells] at h;cases hc:De q a a with
    | none=>simp [hc] at h
    | some b =>
      refine ⟨⟨b,rfl⟩,?_⟩;cases b with
      | true=>simp only [hc] at h;exact ⟨_,h⟩
      | false =>
        simp only [hc] at h;cases hl:eqCells qs l l with
        | none=>simp [hl] at h
        | some w'=>exact ⟨w',rfl⟩
   obtain ⟨⟨u1,k1⟩,u2,k2⟩:=key h1;obtain ⟨⟨v1,k3⟩,v2,k4⟩:=key h2;have g1:=TQ k1 k3 h3.1 h4.1;have g2:=Rq k2 k4 h3.2 h4.2;simp only [eqCells];cases hc:De q x y with
   | none=>simp [hc] at g1
   | some b =>
     cases b with
     | true=>exact g2
     | false =>
       simp only;cases hl:eqCells qs xs ys with
       | none=>simp [hl] at g2
       | some w'=>rfl
theorem AeC {kk:KK}{k k0:AV}(h1:(Dk kk k k).isSome=true∧k.k64=true)(h2:(Dk kk k0 k0).isSome=true∧k0.k64=true):(Dk kk k k0).isSome=true:=by
 obtain ⟨h1,h3⟩:=h1;obtain ⟨h2,h4⟩:=h2;obtain ⟨b,qs⟩:=kk;cases b with
 | true =>
   cases k<;>simp [Dk] at h1;cases k0<;>simp [Dk] at h2;rename_i xs ys;obtain ⟨u,hu⟩:=Option.isSome_iff_exists.1 h1;obtain ⟨v,hv⟩:=Option.isSome_iff_exists.1 h2;exact Rq hu hv h3 h4
 | false =>
   match qs,h1,h2 with
   | [q],h1,h2 =>
     obtain ⟨u,hu⟩:=Option.isSome_iff_exists.1 h1;obtain ⟨v,hv⟩:=Option.isSome_iff_exists.1 h2;simp only [Dk] at hu hv ⊢;refine TQ hu hv ?_ ?_
     ·cases k<;>first|exact h3|rfl
     ·cases k0<;>first|exact h4|rfl
theorem OR {kk:KK}{k k0:AV}{z:AV}(h:(Dk kk k k0).isSome=true):∀ {es:List (AV×AV)}{i:Nat}{r:Option Nat},findKey kk k es i=some r →
 findKey kk k (es++[(k0,z)]) i=some (match r with|some j=>some j|none=>if Dk kk k k0=some true then some (i+es.length) else none)
 | [],i,r,hf=>by
   simp [findKey] at hf;subst hf;simp only [List.nil_append,findKey,List.length_nil,Nat.add_zero];cases he:Dk kk k k0 with
   | none=>simp [he] at h
   | some b=>cases b<;>simp
 | (k',v')::es,i,r,hf=>by
   simp only [findKey,List.cons_append] at hf ⊢;cases he:Dk kk k k' with
   | none=>simp [he] at hf
   | some b =>
     cases b with
     | true=>simp [he] at hf;subst hf;simp
     | false =>
       simp only [he] at hf ⊢;rw [OR h hf];cases r with
       | some j=>rfl
       | none=>simp only [List.length_cons,show i+1+es.length=i+(es.length+1) by omega]
theorem NG {kk:KK}{k k0:AV}{z:AV}(h:(Dk kk k k0).isSome=true):∀ {es:List (AV×AV)}{i:Nat},findKey kk k es i=none→findKey kk k (es++[(k0,z)]) i=none
 | [],i,hf=>by simp [findKey] at hf
 | (k',v')::es,i,hf=>by
   simp only [findKey,List.cons_append] at hf ⊢;cases he:Dk kk k k' with
   | none=>rfl
   | some b =>
     cases b with
     | true=>simp [he] at hf
     | false=>simp only [he] at hf ⊢;exact NG h hf
theorem RA {kk:KK}{k:AV}:∀ {es:List (AV×AV)}{i j:Nat},findKey kk k es i=some (some j)→i≤j∧j<i+es.length
 | [],i,j,hf=>by simp [findKey] at hf
 | (k',v')::es,i,j,hf=>by
   simp only [findKey] at hf;cases he:Dk kk k k' with
   | none=>simp [he] at hf
   | some b =>
     cases b with
     | true=>simp [he] at hf;subst hf;simp
     | false =>
       simp only [he] at hf;have:=RA hf;simp only [List.length_cons];omega
theorem AbN {kk:KK}{z k0:AV}{es:List (AV×AV)}(h0:(Dk kk k0 k0).isSome=true∧k0.k64=true):Ty kk z (es++[(k0,z)])=Ty kk z es:=by
 funext k;unfold Ty findK;by_cases hk:(Dk kk k k).isSome=true∧k.k64=true
 ·rw [if_pos hk,if_pos hk];have hs:=AeC hk h0;cases hf:findKey kk k es 0 with
  | none=>rw [NG hs hf]
  | some r =>
    rw [OR hs hf];cases r with
    | some j =>
      have:=RA hf;simp only;rw [List.getElem?_append_left (by omega)]
    | none =>
      simp only;by_cases he:Dk kk k k0=some true
      ·rw [if_pos he];simp
      ·rw [if_neg he]
 ·rw [if_neg hk,if_neg hk]
def evD0 (G:Prg)(b:Nat)(i:Ins)(σ:St)(x:Loc):Prop :=
 match i with
 | .lok kk z false m _=>match σ.get m,x with
   | .mp r _ p _,.view r' p' kk' z'=>r'=r∧p'=p∧kk'=kk∧z'=z
   | _,_=>False
 | i=>footL (foot G b i σ) x
def Z7 (G:Prg)(b:Nat)(i:Ins)(σ:St)(x:Loc):Prop :=
 match i with
 | .men kk z m _=>match σ.get m,x with
   | .mp r _ _ _,.root r'=>r'=r
   | .mp r _ _ _,.shp r' _=>r'=r
   | .mp r _ _ _,.view r' _ kk' z'=>r'=r∧¬(kk'=kk∧z'=z)
   | _,_=>False
 | i=>footL (foot G b i σ) x∧i.calm=false
def rdOf (b:Nat)(i:Ins)(σ:St):Option (Nat×Path) :=
 match sftI b i σ with
 | .rd r q=>some (r,q)
 | _=>none
def AiN (b:Nat)(i:Ins)(σ:St)(x:Loc):Prop :=
 match i,x with
 | .app s _ _ y z,.shp r q=>r≠b+s∧r∉rootsOf (σ.get z)∧∀st p ss off len,σ.get y = .sl r st p ss off len→¬p <+: q
 | _,_=>False
def Ajd (s:Nat):Loc→Prop
 | .root r=>r≠s
 | .view r _ _ _=>r≠s
 | .shp r _=>r≠s
 | _=>False
def AhV (b:Nat)(i:Ins)(σ:St)(x:Loc):Prop :=
 match i with
 | .app s es _ (.c .nils) z=>Js σ.h es (σ.get z)=true∧Ajd (b+s) x
 | _=>False
def Ahi (b:Nat)(i:Ins)(σ:St)(x:Loc):Prop:=AiN b i σ x∨AhV b i σ x
theorem Zi {h h1:List Ob}{es:Nat}{y:AV}{ys:List AV}(hp:Js h es y=true)(ha:appY h es y=some (ys,h1)):h1=h:=by
 unfold Js at hp;unfold appY at ha;split at ha
 ·cases ha;rfl
 ·cases ha;rfl
 ·cases ha;rfl
 ·split at ha
  ·cases ha;rfl
  ·cases ha
 ·simp only at hp;split at ha
  ·rename_i es' zs hn;rw [hn] at hp;simp only [Bool.and_eq_true,beq_iff_eq,decide_eq_true_eq] at hp;rw [if_pos ⟨hp.1.1,hp.1.2,hp.2⟩] at ha;cases ha;rfl
  ·cases ha
 ·cases ha
theorem app_new {b s es bytes:Nat}{y:Opd}{σ:St}{v:AV}{h':List Ob}(hp:Js σ.h es (σ.get y)=true)(ha:ax b (.app s es bytes (.c .nils) y) σ=some (v,h')):∀r,r≠b+s→h'[r]? = σ.h[r]? := by
 intro r hr;simp only [ax] at ha;cases hy:appY σ.h es (σ.get y) with
 | none=>simp [hy] at ha
 | some q =>
   obtain ⟨ys,h1⟩:=q;have:=Zi hp hy;subst this;have hg:σ.get (.c .nils) = .nils:=rfl;simp only [hy,hg,appX,List.isEmpty_nil,true_and,List.nil_append,List.length_nil] at ha;split at ha
   ·cases ha;rfl
   ·split at ha
    ·cases hn:newOb σ.h (b+s) (.own es ys) with
     | none=>simp [hn] at ha
     | some q =>
       obtain ⟨h2,st⟩:=q;simp only [hn,Option.some.injEq,Prod.mk.injEq] at ha;obtain ⟨_,rfl⟩:=ha;obtain ⟨o,_,_,_,rfl⟩:=BC hn;rw [List.getElem?_set_ne (fun e=>hr e.symm)]
    ·cases ha
def evD (G:Prg)(b:Nat)(i:Ins)(σ:St)(x:Loc):Prop :=
 match rdOf b i σ with
 | some (r,q)=>x = .shp r q
 | none=>evD0 G b i σ x
def evW (G:Prg)(b:Nat)(i:Ins)(σ:St)(x:Loc):Prop:=Z7 G b i σ x∧¬Ahi b i σ x
def DL (G:Prg)(b:Nat)(r:Rop)(σ:St):Loc→Prop
 | .tmp n=>n∈r.reads∨r.d=some n
 | x=>wantedO r.g σ=some true∧evD G b r.i σ x
def WL (G:Prg)(b:Nat)(r:Rop)(σ:St):Loc→Prop
 | .tmp n=>r.d=some n
 | x=>wantedO r.g σ=some true∧evW G b r.i σ x
theorem AaH {h:List Ob}{r st ss:Nat}{nd:AV}:node h r st [] ss=some nd↔∃o,h[r]? = some o∧o.st=st∧o.c=nd:=by
 rw [BG];constructor
 ·rintro ⟨o,h1,h2,_,h3⟩;refine ⟨o,h1,h2,?_⟩;simpa [nav] using h3
 ·rintro ⟨o,h1,h2,rfl⟩;exact ⟨o,h1,h2,.inl rfl,by simp [nav]⟩
def YE (kk:KK)(z:AV)(h:List Ob)(m:AV):Option (AV→Option AV) :=
 match m with
 | .nilm=>some (Ty kk z [])
 | .mp r st p ss=>match (h[r]?).map (Zx kk z p) with
   | some (st',ss',some f)=>if st'=st∧(p = []∨ss'=ss) then some f else none
   | _=>none
 | _=>none
theorem Ac8 {b:Nat}{kk:KK}{z:AV}{m k:Opd}{σ:St}:ax b (.lok kk z false m k) σ=((YE kk z σ.h (σ.get m)).bind fun f=>f (σ.get k)).map (·,σ.h):=by
 have fin:∀es:List (AV×AV),(match findK kk (σ.get k) es with
  | some (some i)=>match es[i]? with
    | some (_,v)=>some (if false=true then AV.tup [v,.bool true] else v,σ.h)
    | none=>none
  | some none=>some (if false=true then .tup [z,.bool false] else z,σ.h)
  | none=>none)=(Ty kk z es (σ.get k)).map (·,σ.h):=by
  intro es;unfold Ty;cases findK kk (σ.get k) es with
  | none=>rfl
  | some r =>
    cases r with
    | none=>rfl
    | some i=>simp only;cases es[i]? <;> rfl
 simp only [ax,YE];cases σ.get m<;>try rfl
 case nilm=>exact fin []
 case mp r st p ss =>
  simp only [node];cases ho:σ.h[r]? with
  | none=>rfl
  | some o =>
    simp only [Option.map_some,Zx];by_cases hst:o.st=st∧(p = []∨o.ss=ss)
    ·simp only [if_pos hst];cases hn:nav o.c p with
     | none=>rfl
     | some nd =>
       cases nd<;>try rfl
       case ownm es=>simp only [Option.bind_some,Sd,Option.map_some,if_pos hst];exact fin es
    ·simp only [if_neg hst];cases hn:nav o.c p with
     | none=>rfl
     | some nd =>
       cases nd<;>try rfl
       case ownm es=>simp only [Option.bind_some,Sd,Option.map_some,if_neg hst];rfl
theorem Abi {b:Nat}{kk:KK}{z:AV}{m k:Opd}{σ:St}{v:AV}{h':List Ob}(hx:ax b (.men kk z m k) σ=some (v,h')) :
 ∃r st p ss,σ.get m = .mp r st p ss∧(∀q,q≠r→h'[q]? = σ.h[q]?)∧∀p',(h'[r]?).map (Zx kk z p')=(σ.h[r]?).map (Zx kk z p'):=by
 simp only [ax] at hx;cases hg:σ.get m<;>simp only [hg,reduceCtorEq] at hx;rename_i r st p ss;refine ⟨r,st,p,ss,rfl,?_⟩;cases hn:node σ.h r st p ss with
 | none=>simp [hn] at hx
 | some nd =>
   cases nd<;>simp only [hn,reduceCtorEq] at hx;rename_i es;obtain ⟨o,ho,hst,_,hc⟩:=BG.1 hn;split at hx
   ·rename_i hfr;cases hfk:findK kk (σ.get k) es with
    | none=>simp [hfk] at hx
    | some q =>
      cases q with
      | some j =>
        simp only [hfk] at hx;cases hej:es[j]? with
        | none=>simp [hej] at hx
        | some kv=>simp only [hej,Option.some.injEq,Prod.mk.injEq] at hx;obtain ⟨_,rfl⟩:=hx;exact ⟨fun _ _=>rfl,fun _=>rfl⟩
      | none =>
        simp only [hfk] at hx;cases hso:setOb σ.h r p (.ownm (es++[(σ.get k,z)])) false with
        | none=>simp [hso] at hx
        | some hf =>
          simp only [hso,Option.map_some,Option.some.injEq,Prod.mk.injEq] at hx;obtain ⟨_,rfl⟩:=hx;obtain ⟨o',c,h1,h2,rfl⟩:=CG hso;rw [ho] at h1;cases h1;refine ⟨fun q hq=>List.getElem?_set_ne (fun e=>hq e.symm),fun p'=>?_⟩;rw [List.getElem?_set_self (List.lt_of_some ho),ho];have hk0:(Dk kk (σ.get k) (σ.get k)).isSome=true∧(σ.get k).k64=true:=by
           unfold findK at hfk;by_cases hq:(Dk kk (σ.get k) (σ.get k)).isSome=true∧(σ.get k).k64=true
           ·exact hq
           ·rw [if_neg hq] at hfk;cases hfk
          have hvo:∀cs,AV.ownm (es++[(σ.get k,z)])≠.agg cs:=by intro cs h;cases h
          have key:((nav c p').bind Sd).map (Ty kk z)=((nav o.c p').bind Sd).map (Ty kk z):=by
           by_cases hp:p <+: p'
           ·obtain ⟨q,rfl⟩:=hp;rw [CT p _ _ _ hvo h2 q];cases q with
            | nil=>rw [nav_nil,List.append_nil,hc];simp only [Option.bind_some,Sd,Option.map_some,AbN hk0]
            | cons a q =>
              obtain ⟨i,j⟩:=a;have:nav o.c (p++(i,j)::q)=none:=by
               cases hq:nav o.c (p++(i,j)::q) with
               | none=>rfl
               | some x =>
                 obtain ⟨nd,g1,g2⟩:=UA p _ _ _ hq;rw [hc] at g1;cases g1;simp [nav] at g2
              rw [this];simp [nav]
           ·rw [Agm p _ _ _ hvo h2 p' hp]
          simp only [Option.map_some,Zx,key,Bool.false_eq_true,if_false]
   ·cases hx
theorem evO_loc20 {G:Prg}{n:Nat}{i:Ins}{b:Nat}{σ σ1 τ:St}{v:AV}(hx:evO G n i b σ=some (v,σ1))(ho:∀x∈i.opds,τ.get x=σ.get x)(hf:∀x,evD0 G b i σ x→valS τ x=valS σ x) :
 ∃τ1,evO G n i b τ=some (v,τ1)∧τ1.t=τ.t∧σ1.t=σ.t∧(∀x,evD0 G b i σ x→valS τ1 x=valS σ1 x)∧(∀x,¬Z7 G b i σ x→valS τ1 x=valS τ x):=by
 have gen:(∀x,evD0 G b i σ x=footL (foot G b i σ) x)→(∀x,Z7 G b i σ x=(footL (foot G b i σ) x∧i.calm=false))→∃τ1,evO G n i b τ=some (v,τ1)∧τ1.t=τ.t∧σ1.t=σ.t∧(∀x,evD0 G b i σ x→valS τ1 x=valS σ1 x)∧(∀x,¬Z7 G b i σ x→valS τ1 x=valS τ x):=by
  intro h1 h2;obtain ⟨τ1,e1,e2,e3,e4,e5⟩:=AcV hx ho (fun x hq=>hf x (by rw [h1];exact hq));exact ⟨τ1,e1,e2,e3,fun x hq=>e4 x (by rw [←h1];exact hq),fun x hq=>e5 x (by rw [←h2];exact hq)⟩
 cases i
 case lok kk z ok m k =>
  cases ok with
  | true=>exact gen (fun _=>rfl) (fun _=>rfl)
  | false =>
    cases n with
    | zero=>simp [evO] at hx
    | succ n =>
      have hm:=ho m (by simp [Ins.opds]);have hk:=ho k (by simp [Ins.opds]);have e:∀τ:St,evO G (n+1) (.lok kk z false m k) b τ=match ax b (.lok kk z false m k) τ with
       | some (v,h)=>some (v,{ τ with h })
       | none=>none:=fun _=>rfl
      rw [e,Ac8] at hx;have hl:YE kk z τ.h (τ.get m)=YE kk z σ.h (σ.get m):=by
       rw [hm];have hf':=hf;unfold evD0 at hf';simp only at hf';generalize σ.get m=g at hf';cases g<;>try rfl
       rename_i r st p ss;have:=hf' (.view r p kk z) ⟨rfl,rfl,rfl,rfl⟩;simp only [valS,Vl.v.injEq] at this;simp only [YE,this]
      cases hv:(YE kk z σ.h (σ.get m)).bind fun f=>f (σ.get k) with
      | none=>simp [hv] at hx
      | some u =>
        simp only [hv,Option.map_some,Option.some.injEq,Prod.mk.injEq] at hx;obtain ⟨rfl,rfl⟩:=hx;refine ⟨τ,?_,rfl,rfl,hf,fun _ _=>rfl⟩;rw [e,Ac8,hl,hk,hv];rfl
 case men kk z m k =>
  obtain ⟨τ1,e1,e2,e3,e4,e5⟩:=AcV hx ho (fun x hq=>hf x hq);refine ⟨τ1,e1,e2,e3,fun x hq=>e4 x hq,fun x hq=>?_⟩;have hm:=ho m (by simp [Ins.opds]);cases n with
  | zero=>simp [evO] at hx
  | succ n =>
    have e:evO G (n+1) (.men kk z m k) b τ=match ax b (.men kk z m k) τ with
     | some (v,h)=>some (v,{ τ with h })
     | none=>none:=rfl
    rw [e] at e1;cases hax:ax b (.men kk z m k) τ with
    | none=>simp [hax] at e1
    | some p =>
      obtain ⟨u,h'⟩:=p;simp only [hax,Option.some.injEq,Prod.mk.injEq] at e1;obtain ⟨_,rfl⟩:=e1;obtain ⟨r,st,p,ss,g1,g2,g3⟩:=Abi hax;rw [hm] at g1;unfold Z7 at hq;simp only [g1] at hq;cases x with
      | tmp q=>rfl
      | lps=>rfl
      | root q=>simp only [valS];rw [g2 q hq]
      | shp q qq=>simp only [valS];rw [g2 q hq]
      | view q p' kk' z' =>
        by_cases hqr:q=r
        ·subst hqr;have:kk'=kk∧z'=z:=Classical.byContradiction fun hc=>hq ⟨rfl,hc⟩;obtain ⟨rfl,rfl⟩:=this;simp only [valS,g3]
        ·simp only [valS];rw [g2 q hqr]
 all_goals exact gen (fun _=>rfl) (fun _=>rfl)
theorem AdI {G:Prg}{n:Nat}{i:Ins}{b:Nat}{σ σ1 τ:St}{v:AV}(hx:evO G n i b σ=some (v,σ1))(ho:∀x∈i.opds,τ.get x=σ.get x)(hf:∀x,evD G b i σ x→valS τ x=valS σ x) :
 ∃τ1,evO G n i b τ=some (v,τ1)∧τ1.t=τ.t∧σ1.t=σ.t∧(∀x,evD G b i σ x→valS τ1 x=valS σ1 x)∧(∀x,¬evW G b i σ x→valS τ1 x=valS τ x):=by
 cases hr:rdOf b i σ with
 | none =>
   have hD:∀x,evD G b i σ x↔evD0 G b i σ x:=fun x=>by unfold evD;rw [hr]
   obtain ⟨τ1,e1,e2,e3,e4,e5⟩:=evO_loc20 hx ho (fun x h=>hf x ((hD x).2 h));refine ⟨τ1,e1,e2,e3,fun x h=>e4 x ((hD x).1 h),fun x h=>?_⟩;by_cases h0:Z7 G b i σ x
   ·have hk:Ahi b i σ x:=Classical.byContradiction fun hk=>h ⟨h0,hk⟩;rcases hk with hk|hk
    case inr =>
     unfold AhV at hk;split at hk
     ·rename_i s es bytes z;obtain ⟨k1,k2⟩:=hk;cases n with
      | zero=>simp [evO] at hx
      | succ n =>
        have e:evO G (n+1) (.app s es bytes (.c .nils) z) b τ=match ax b (.app s es bytes (.c .nils) z) τ with
         | some (v,h)=>some (v,{ τ with h })
         | none=>none:=rfl
        rw [e] at e1;have hz:=ho z (by simp [Ins.opds]);have k3:Js τ.h es (τ.get z)=true:=by
         rw [hz];have hroot:∀r∈rootsOf (σ.get z),τ.h[r]? = σ.h[r]? := fun r hr=>by
          have:=hf (.root r) ((hD _).2 (by
           show r∈([s].map (b + ·)++rootsL (σ.gets [.c .nils,z]));refine List.mem_append_right _ (Ey (xs:=σ.gets [.c .nils,z]) (by show σ.get z∈[σ.get (.c .nils),σ.get z];simp) hr)))
          simpa [valS] using this
         cases hzz:σ.get z with
         | sl r st p ss off len =>
           have hr:=hroot r (by rw [hzz];simp [rootsOf]);rw [hzz] at k1;simp only [Js,node,hr] at k1 ⊢;exact k1
         | _=>rw [hzz] at k1;first|exact k1|(simp [Js] at k1;done)|simp [Js]
        cases hax:ax b (.app s es bytes (.c .nils) z) τ with
        | none=>simp [hax] at e1
        | some p =>
          obtain ⟨v',h'⟩:=p;simp only [hax,Option.some.injEq,Prod.mk.injEq] at e1;obtain ⟨_,rfl⟩:=e1;have hnew:=app_new k3 hax;cases x with
          | root r=>simp only [valS];rw [hnew r k2]
          | view r p kk z=>simp only [valS];rw [hnew r k2]
          | shp r q=>simp only [valS];rw [hnew r k2]
          | tmp n=>exact k2.elim
          | lps=>exact k2.elim
     ·exact hk.elim
    unfold AiN at hk;split at hk
    ·rename_i s es bytes y z r q;obtain ⟨k1,k2,k3⟩:=hk;cases n with
     | zero=>simp [evO] at hx
     | succ n =>
       have e:evO G (n+1) (.app s es bytes y z) b τ=match ax b (.app s es bytes y z) τ with
        | some (v,h)=>some (v,{ τ with h })
        | none=>none:=rfl
       rw [e] at e1;cases hax:ax b (.app s es bytes y z) τ with
       | none=>simp [hax] at e1
       | some p =>
         obtain ⟨v',h'⟩:=p;simp only [hax,Option.some.injEq,Prod.mk.injEq] at e1;obtain ⟨_,rfl⟩:=e1;have hy:=ho y (by simp [Ins.opds]);have hz:=ho z (by simp [Ins.opds]);simp only [valS];rw [app_at hax k1 (by rw [hz];exact k2) (by rw [hy];exact k3)]
    ·exact hk.elim
   ·exact e5 x h0
 | some rq =>
   obtain ⟨r,q⟩:=rq;have ha:(τ.h[r]?).map (atO q)=(σ.h[r]?).map (atO q):=by
    have:=hf (.shp r q) (by unfold evD;rw [hr]);simpa [valS] using this
   cases n with
   | zero=>simp [evO] at hx
   | succ n =>
     have fin:(∀τ:St,evO G (n+1) i b τ=match ax b i τ with
      | some (v,h)=>some (v,{ τ with h })
      | none=>none)→(∀h',ax b i σ=some (v,h')→h'=σ.h∧ax b i τ=some (v,τ.h))→∃τ1,evO G (n+1) i b τ=some (v,τ1)∧τ1.t=τ.t∧σ1.t=σ.t∧(∀x,evD G b i σ x→valS τ1 x=valS σ1 x)∧(∀x,¬evW G b i σ x→valS τ1 x=valS τ x):=by
      intro e hv;rw [e] at hx;cases hax:ax b i σ with
      | none=>simp [hax] at hx
      | some p =>
        obtain ⟨v',h'⟩:=p;simp only [hax,Option.some.injEq,Prod.mk.injEq] at hx;obtain ⟨rfl,rfl⟩:=hx;obtain ⟨g1,g2⟩:=hv _ hax;subst g1;exact ⟨τ,by rw [e,g2],rfl,rfl,hf,fun _ _=>rfl⟩
     unfold rdOf sftI at hr;split at hr
     ·rename_i r' q' hs;simp only [Option.some.injEq,Prod.mk.injEq] at hr;obtain ⟨rfl,rfl⟩:=hr;split at hs
      ·rename_i off x;split at hs
       ·rename_i r2 st p ss i2 j hg;simp only [Sft.rd.injEq] at hs;obtain ⟨rfl,rfl⟩:=hs;exact fin (fun _=>rfl) (fun h' hh=>AhC (by simp only [Aej,hg]) ho hh ha)
       ·cases hs
      ·rename_i es x kx;split at hs
       ·rename_i r2 st p ss off len hg;simp only [Sft.rd.injEq] at hs;obtain ⟨rfl,rfl⟩:=hs;exact fin (fun _=>rfl) (fun h' hh=>AhC (by simp only [Aej,hg]) ho hh ha)
       ·cases hs
      ·rename_i x;split at hs
       ·rename_i r2 st p ss i2 j hg;split at hs
        ·rename_i es xs hn;simp only [Sft.rd.injEq] at hs;obtain ⟨rfl,rfl⟩:=hs;exact fin (fun _=>rfl) (fun h' hh=>ld_at hg ((ho x (by simp [Ins.opds])).trans hg) hn hh ha)
        ·cases hs
       ·cases hs
      ·split at hs<;>cases hs
      ·split at hs<;>cases hs
      ·cases hs
      ·cases hs
     ·cases hr
theorem get_of_tmps {σ τ:St}{x:Opd}(h:∀n∈x.tmps,τ.t[n]? = σ.t[n]?):τ.get x=σ.get x:=by
 cases x with
 | t n=>simp only [St.get,List.getD_eq_getElem?_getD];rw [h n (by simp [Opd.tmps])]
 | c v=>rfl
theorem C2 {σ:St}{d:Option Nat}{v:AV}{x:Loc}(h:∀n,x = .tmp n→d≠some n):valS (σ.put d v) x=valS σ x:=by
 cases d with
 | none=>rfl
 | some d =>
   cases x with
   | tmp n =>
     have:d≠n:=fun e=>h n rfl (by rw [e]);simp only [valS,St.put];rw [List.getElem?_set_ne this]
   | root r=>rfl
   | lps=>rfl
   | view r p kk z=>rfl
   | shp r q=>rfl
theorem Sp {σ τ:St}{d:Nat}{v:AV}(e:τ.t[d]? = σ.t[d]?):(τ.put (some d) v).t[d]? = (σ.put (some d) v).t[d]? := by
 simp only [St.put];rcases Nat.lt_or_ge d σ.t.length with hl|hl
 ·have:d<τ.t.length:=by
   rcases Nat.lt_or_ge d τ.t.length with h|h
   ·exact h
   ·rw [List.getElem?_eq_none h,List.getElem?_eq_getElem hl] at e;cases e
  rw [List.getElem?_set_self hl,List.getElem?_set_self this]
 ·have:τ.t.length≤d:=by
   rcases Nat.lt_or_ge d τ.t.length with h|h
   ·rw [List.getElem?_eq_none hl,List.getElem?_eq_getElem h] at e;cases e
   ·exact h
  rw [List.getElem?_eq_none (by simpa using this),List.getElem?_eq_none (by simpa using hl)]
theorem Wu {σ τ:St}{r:Rop}(h:∀n∈r.reads,τ.t[n]? = σ.t[n]?):wantedO r.g τ=wantedO r.g σ:=by
 unfold wantedO;cases hg:r.g with
 | none=>rfl
 | some p =>
   obtain ⟨t,want⟩:=p;simp only [];rw [h t (by simp [Rop.reads,hg])]
theorem AbR {G:Prg}{n:Nat}{b:Nat}{r:Rop}{σ σ1 τ:St}(hx:ropE (evO G n) b r σ=some σ1)(hD:∀x,DL G b r σ x→valS τ x=valS σ x) :
 ∃τ1,ropE (evO G n) b r τ=some τ1∧(∀x,DL G b r σ x→valS τ1 x=valS σ1 x)∧(∀x,¬WL G b r σ x→valS τ1 x=valS τ x):=by
 have hrd:∀n∈r.reads,τ.t[n]? = σ.t[n]? := fun n hn=>by have:=hD (.tmp n) (.inl hn);simpa [valS] using this
 have hdd:∀d,r.d=some d→τ.t[d]? = σ.t[d]? := fun d hd=>by have:=hD (.tmp d) (.inr hd);simpa [valS] using this
 have hw:=Wu (r:=r) hrd;have fin:∀(v:AV) (σa τa:St),(∀n:Nat,τa.t[n]? = τ.t[n]?)→(∀n:Nat,σa.t[n]? = σ.t[n]?)→(∀x,(wantedO r.g σ=some true∧evD G b r.i σ x)→valS τa x=valS σa x)→(∀x,(∀n,x≠.tmp n)→¬(wantedO r.g σ=some true∧evW G b r.i σ x)→valS τa x=valS τ x) →
  (∀x,DL G b r σ x→valS (τa.put r.d v) x=valS (σa.put r.d v) x)∧(∀x,¬WL G b r σ x→valS (τa.put r.d v) x=valS τ x):=by
  intro v σa τa h1 h2 h3 h4;refine ⟨fun x hx=>?_,fun x hx=>?_⟩
  ·cases x with
   | tmp n =>
     by_cases hd:r.d=some n
     ·rw [hd];simp only [valS];rw [Sp (σ:=σa) (τ:=τa) (d:=n) (v:=v) (by rw [h1,h2,hdd n hd])]
     ·rw [C2 (fun m hm=>by cases hm;exact hd),C2 (fun m hm=>by cases hm;exact hd)];rcases hx with hx|hx
      ·simp only [valS];rw [h1,h2,hrd n hx]
      ·exact absurd hx hd
   | root q=>rw [C2 (fun m hm=>by cases hm),C2 (fun m hm=>by cases hm)];exact h3 _ hx
   | lps=>rw [C2 (fun m hm=>by cases hm),C2 (fun m hm=>by cases hm)];exact h3 _ hx
   | view q p kk z=>rw [C2 (fun m hm=>by cases hm),C2 (fun m hm=>by cases hm)];exact h3 _ hx
   | shp q kk=>rw [C2 (fun m hm=>by cases hm),C2 (fun m hm=>by cases hm)];exact h3 _ hx
  ·cases x with
   | tmp n =>
     rw [C2 (fun m hm=>by cases hm;exact hx)];simp only [valS];rw [h1]
   | root q=>rw [C2 (fun m hm=>by cases hm)];exact h4 _ (fun n h=>by cases h) hx
   | lps=>rw [C2 (fun m hm=>by cases hm)];exact h4 _ (fun n h=>by cases h) hx
   | view q p kk z=>rw [C2 (fun m hm=>by cases hm)];exact h4 _ (fun n h=>by cases h) hx
   | shp q kk=>rw [C2 (fun m hm=>by cases hm)];exact h4 _ (fun n h=>by cases h) hx
 have evD_tmp:∀n,¬evD G b r.i σ (.tmp n):=by
  intro n h;unfold evD at h;split at h
  ·cases h
  unfold evD0 at h;split at h
  ·split at h
   ·rename_i hh;cases hh
   ·exact h
  ·exact h
 unfold ropE at hx ⊢;rw [hw];cases hwo:wantedO r.g σ with
 | none=>simp [hwo] at hx
 | some wb =>
   rw [hwo] at fin;cases wb with
   | false =>
     simp only [hwo,Option.some.injEq] at hx;subst hx;obtain ⟨f1,f2⟩:=fin (.tup []) σ τ (fun _=>rfl) (fun _=>rfl) (fun x hx=>by cases hx.1) (fun _ _ _=>rfl);exact ⟨_,rfl,f1,f2⟩
   | true =>
     simp only [hwo] at hx;cases hev:evO G n r.i b σ with
     | none=>simp [hev] at hx
     | some p =>
       obtain ⟨v,σa⟩:=p;simp only [hev,Option.some.injEq] at hx;subst hx;obtain ⟨τa,e1,e2,e3,e4,e5⟩:=AdI (τ:=τ) hev (fun x hx=>get_of_tmps (fun m hm=>hrd m (by simp only [Rop.reads,List.mem_append,List.mem_flatMap];exact .inl ⟨x,hx,hm⟩)))
        (fun x hx=>by
          cases x with
          | tmp n=>exact absurd hx (evD_tmp n)
          | root q=>exact hD _ ⟨hwo,hx⟩
          | lps=>exact hD _ ⟨hwo,hx⟩
          | view q p kk z=>exact hD _ ⟨hwo,hx⟩
          | shp q p=>exact hD _ ⟨hwo,hx⟩)
       obtain ⟨f1,f2⟩:=fin v σa τa (fun m=>by rw [e2]) (fun m=>by rw [e3]) (fun x hx=>e4 x hx.2) (fun x _ hx=>e5 x (fun h=>hx ⟨rfl,h⟩));exact ⟨_,by simp only [e1],f1,f2⟩
end Go.Mw
