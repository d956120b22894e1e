/- Soundness: what is promised; operations. -/
import Derived.Test.YtondemeliogjmaaGreatM09
set_option linter.unusedVariables false
set_option linter.unusedSimpArgs false
namespace Go.Mw
open Go.RowKit
inductive All2 {α β:Type}(R:α→β→Prop):List α→List β→Prop
 | nil:All2 R [] []
 | cons {a:α}{b:β}{l:List α}{k:List β}(h:R a b) (t:All2 R l k):All2 R (a::l) (b::k)
def VRels (w:World)(fz:Nat→Prop)(R:AV→Value→Prop)(xs:List AV)(cs:List Value):Prop :=
 cs.length=xs.length∧∀(j:Nat) (v:AV) (c:Value),xs[j]? = some v→cs[j]? = some c→VRel w fz R v c
def XL (fr:Frame)(las:Las):Prop:=∀la,fr.roundOf=some la→∃l,Lof las l la
def OpS (P:Program)(f:Ins→Nat→St→Option (AV×St)):Prop :=
 ∀(o:Oper) (sm:List Nat) (i:Ins) (b:Nat) (σ:St) (v:AV) (σ':St),AfR P sm o=some i→f i b σ=some (v,σ') →
  ∀w0 fz0 B m las a w,Sim P w0 fz0 B m las σ a w→∃c w' m',Sim P w0 fz0 B m' las σ' a w'∧σ'.t=σ.t∧Ev m σ.h w m' σ'.h w'∧σ'.h.length=σ.h.length∧VRel w' m'.fz (RefR w' m' σ'.h (Lof las)) v c ∧
   ∀(fr:Frame) (ops:Array Oper) (j:Nat) (rest:List Nat) (k:List Item) (cs:List Frame),ops[j]? = some o→Region.wanted o (yielded ops a.tmps)=true →
    Steps P (lone (fr.atR a (.inRegion ops (j::rest)::k)) cs w) (lone (fr.atR (a.put o.dst c) (.inRegion ops rest::k)) cs w')
def CodeS (P:Program)(f:C→Nat→St→Option (Ex×St)):Prop :=
 ∀(c:C) (b:Nat) (σ:St) (e:Ex) (σ':St),f c b σ=some (e,σ')→∀(sm:List Nat) (code:Code),compC P sm code=some (bare c) →
  ∀w0 fz0 B m las a w,Sim P w0 fz0 B m las σ a w→∀(fr:Frame),XL fr las→∃a' w' m',Sim P w0 fz0 B m' las σ' a' w'∧Ev m σ.h w m' σ'.h w'∧σ'.h.length=σ.h.length ∧
   ∀(k:List Item) (cs:List Frame),Goes P (lone (fr.atR a (.code code::k)) cs w) fr k cs a' w' e
def XQ (P:Program)(f:FuncId)(args:Array Value)(w:World)(c:Value)(w':World):Prop :=
 ∀cs,∃frm,Steps P (lone (Frame.enter P f args .normal) cs w) (lone frm cs w')∧frm.fn=f∧frm.leaving P w' (.returned c)
def CallS (P:Program)(g:FuncId→List AV→Nat→List Nat→St→Option (AV×St)):Prop :=
 ∀(f:FuncId) (xs:List AV) (b:Nat) (ss:List Nat) (σ:St) (v:AV) (σ':St),g f xs b ss σ=some (v,σ') →
  ∀w0 fz0 B m las a w (args:Array Value),Sim P w0 fz0 B m las σ a w→VRels w m.fz (RefR w m σ.h (Lof las)) xs args.toList →
   ∃c w' m',Sim P w0 fz0 B m' las σ' a w'∧σ'.t=σ.t∧Ev m σ.h w m' σ'.h w'∧σ'.h.length=σ.h.length∧VRel w' m'.fz (RefR w' m' σ'.h (Lof las)) v c∧XQ P f args w c w'
def YieldS (P:Program)(g:Nat→List AV→St→Option (AV×St)):Prop :=
 ∀(l:Nat) (xs:List AV) (σ:St) (v:AV) (σ':St),g l xs σ=some (v,σ') →
  ∀w0 fz0 B m las a w (args:Array Value) la,Sim P w0 fz0 B m las σ a w→VRels w m.fz (RefR w m σ.h (Lof las)) xs args.toList→Lof las l la →
   ∃c w' m',Sim P w0 fz0 B m' las σ' a w'∧σ'.t=σ.t∧Ev m σ.h w m' σ'.h w'∧σ'.h.length=σ.h.length∧VRel w' m'.fz (RefR w' m' σ'.h (Lof las)) v c ∧
    ∃fn tmps asg body,(Instr.yield la args).run P w = .ok (.round la fn tmps asg body) w ∧
     ∀(c0:Frame) (cs:List Frame),Steps P (lone (Frame.round la fn tmps asg body .normal) (c0::cs) w) (lone (c0.finish c) cs w')
def KX (cs:List Value):Value:=if h:cs.toArray.size=1 then cs.toArray[0] else .tuple cs.toArray
def FunS (P:Program)(G:Prg)(r:IF→List AV→List Ob→List Lp→Option (List AV×St)):Prop :=
 ∀(f:FuncId) (F:IF) (xs:List AV) (h:List Ob) (lp:List Lp) (rs:List AV) (σ1:St),G f=some F→r F xs h lp=some (rs,σ1)→xs.length=F.np →
  ∀w0 fz0 m las w (args:Array Value),VRels w m.fz (RefR w m h (Lof las)) xs args.toList→Rel w0 fz0 m h w→Lps P w0 m las h w lp →
   ∃m' w',∃(cs:List Value),VRels w' m'.fz (RefR w' m' σ1.h (Lof las)) rs cs∧Rel w0 fz0 m' σ1.h w'∧Lps P w0 m' las σ1.h w' σ1.lp∧Ev m h w m' σ1.h w'∧σ1.h.length=h.length+F.ns∧XQ P f args w (KX cs) w'
section
variable {P:Program}{w0:World}{fz0:Nat→Prop}{B:Nat}{m m':Mem}{w w':World}{las:Las}{h h':List Ob}{σ σ':St}{a:Act}
theorem Sb {f:Ins→Nat→St→Option (AV×St)}(hf:OpS P f){sm:List Nat}{ops:Array Oper}{b:Nat}:∀(l:List Nat) (rs:List Rop) (σ σ':St) (m:Mem) (a:Act) (w:World),
 All2 (fun j r=>∃o,ops[j]? = some o∧PV P sm ops o=some r) l rs→J8 f rs b σ=some σ'→Sim P w0 fz0 B m las σ a w →
 ∃a' w' m',Sim P w0 fz0 B m' las σ' a' w'∧Ev m σ.h w m' σ'.h w'∧σ'.h.length=σ.h.length ∧
  ∀(fr:Frame) (k:List Item) (cs:List Frame),Steps P (lone (fr.atR a (.inRegion ops l::k)) cs w) (lone (fr.atR a' k) cs w'):=by
 intro l;induction l with
 | nil =>
   intro rs σ σ' m a w hF hx hs;cases hF;simp [J8] at hx;subst hx;exact ⟨a,w,m,hs,Ev.refl _ _ _,rfl,fun fr k cs=>.one stepR_region_end⟩
 | cons j l ih =>
   intro rs σ σ' m a w hF hx hs;cases hF with
   | cons hj hF =>
     rename_i r rs;obtain ⟨o,ho,hc⟩:=hj;unfold PV at hc;split at hc
     ·rename_i i g hi hg;cases hc;simp only [J8] at hx;split at hx
      ·rename_i hw;have hwant:=RU hs.tr hg hw;split at hx
       ·rename_i v σ1 hev;obtain ⟨c,w1,m1,s1,et,e1,l1,v1,go1⟩:=hf o sm i b σ v σ1 hi hev w0 fz0 B m las a w hs;obtain ⟨a2,w2,m2,s2,e2,l2,go2⟩:=ih rs _ σ' m1 _ w1 hF hx (s1.put v1 o.dst);rw [Ae4] at e2 l2;exact ⟨a2,w2,m2,s2,e1.trans e2,l2.trans l1,fun fr k cs=>(go1 fr ops j l k cs ho hwant).trans (go2 fr k cs)⟩
       ·cases hx
      ·rename_i hw;have hwant:=RU hs.tr hg hw;obtain ⟨a2,w2,m2,s2,e2,l2,go2⟩:=ih rs _ σ' m _ w hF hx (hs.put Vg o.dst);rw [Ae4] at e2 l2;exact ⟨a2,w2,m2,s2,e2,l2,fun fr k cs=>.head (TF ho hwant) (go2 fr k cs)⟩
      ·cases hx
     ·cases hc
theorem opds_rel {L:Nat→Nat→Prop}(ht:TR w m σ.h L σ.t a.tmps):∀ {xs:List Operand}{ys:List Opd},opds xs=some ys→VRels w m.fz (RefR w m σ.h L) (σ.gets ys) (xs.map a.eval):=by
 intro xs;induction xs with
 | nil=>intro ys h;simp [opds] at h;subst h;exact ⟨rfl,fun j v c h=>by simp [St.gets] at h⟩
 | cons x xs ih =>
   intro ys h;simp only [opds] at h;cases h1:opd x with
   | none=>simp [h1] at h
   | some y =>
     cases h2:opds xs with
     | none=>simp [h1,h2] at h
     | some zs =>
       simp [h1,h2] at h;subst h;obtain ⟨g1,g2⟩:=ih h2;refine ⟨by simpa [St.gets] using g1,fun j v c hv hc=>?_⟩;cases j with
       | zero=>simp [St.gets] at hv hc;subst hv;subst hc;exact ht.get h1
       | succ j=>exact g2 j v c (by simpa [St.gets] using hv) (by simpa using hc)
theorem VRels.app {R:AV→Value→Prop}{fz:Nat→Prop}{xs bs:List AV}{cs ds:List Value}(h:VRels w fz R xs cs)(k:VRels w fz R bs ds):VRels w fz R (xs++bs) (cs++ds):=by
 refine ⟨by simp [h.1,k.1],fun j v c hv hc=>?_⟩;rcases Nat.lt_or_ge j xs.length with hlt|hge
 ·rw [List.getElem?_append_left hlt] at hv;rw [List.getElem?_append_left (by rw [h.1];exact hlt)] at hc;exact h.2 j v c hv hc
 ·rw [List.getElem?_append_right hge] at hv;rw [List.getElem?_append_right (by rw [h.1];exact hge),h.1] at hc;exact k.2 _ v c hv hc
theorem Le {f:FuncId}{fn:Func}(hf:P.funcs[f]? = some fn)(h1:(fn.name == "runtime.NumGoroutine")=false)(h2:fn.body.isNone=false)(args:Array Value):(callFunc f args).run P w = .ok (.enter f args) w:=by
 have h1':fn.name ≠ "runtime.NumGoroutine" := by simpa using h1
 have h2':fn.body≠none:=fun e=>by rw [e] at h2;cases h2
 unfold callFunc;simp [Sem.run_bind,program,Sem.run,hf,Result.andThen,h1',h2']
theorem VG {c:Value}{f:FuncId}{args:Array Value}{o:Oper}(hL:XQ P f args w c w')(hd:∀c,o.op≠.defer c)(hr:(execOp a.eval o).run P w = .ok (.enter f args) w)
 (fr:Frame) (ops:Array Oper) (j:Nat) (rest:List Nat) (k:List Item) (cs:List Frame) (ho:ops[j]? = some o) (hw:Region.wanted o (yielded ops a.tmps)=true) :
 Steps P (lone (fr.atR a (.inRegion ops (j::rest)::k)) cs w) (lone (fr.atR (a.put o.dst c) (.inRegion ops rest::k)) cs w'):=by
 obtain ⟨frm,h1,h2,h3⟩:=hL (fr.atR a (.inRegion ops (j::rest)::k)::cs);refine .head (Z2 ho hw hd hr) (h1.trans (.one ?_));rw [←SK (b:=fr) (k:=k) (rest:=rest) ho];exact step_leave_returned h3
theorem inv_fn {R:AV→Value→Prop}{fz:Nat→Prop}{f:FuncId}{cps:List AV}{c:Value}(h:VRel w fz R (.fn f cps) c):∃vs:Array Value,c = .func (.func f) #[] vs∧VRels w fz R cps vs.toList:=by
 cases h with
 | base _ _ h =>
   cases h with
   | fn _ _ vs hl hr=>exact ⟨vs,rfl,by simpa using hl,fun j v c hv hc=>.base _ _ (hr j v c hv (by simpa using hc))⟩
 | fn _ _ vs hl hr=>exact ⟨vs,rfl,by simpa using hl,fun j v c hv hc=>hr j v c hv (by simpa using hc)⟩
 | ref _ _ h=>cases h
theorem compF_some {f:FuncId}{sm:List Nat}{r:C×List (Nat×Option (Bool×Nat))×Nat}(h:Af P f sm=some r):∃fn c,P.funcs[f]? = some fn∧fn.body=some c∧(fn.name == "runtime.NumGoroutine")=false∧compC P sm c=some r.1∧JE P fn.results.toList=some r.2.1∧r.2.2=fn.ntmps:=by
 unfold Af at h;split at h
 ·rename_i fn hf;split at h
  ·rename_i c hb;split at h
   ·rename_i hn;split at h
    ·rename_i h1 h2;cases h;exact ⟨fn,c,hf,hb,hn,h1,h2,rfl⟩
    ·cases h
   ·cases h
  ·cases h
 ·cases h
theorem callF_some {G:Prg}{n:Nat}{f:FuncId}{xs:List AV}{b:Nat}{ss:List Nat}{r:AV×St}(h:callF G n f xs b ss σ=some r):∃F,G f=some F:=by
 cases n with
 | zero=>simp [callF] at h
 | succ n =>
   simp only [callF] at h;cases hg:G f with
   | none=>simp [hg] at h
   | some F=>exact ⟨F,rfl⟩
theorem Aby {G:Prg}(hG:AiE P G){n:Nat}(hK:CallS P (callF G n))(hY:YieldS P (yieldF G n)):OpS P (evO G (n+1)):=by
 intro o sm i b σ v σ' hc hx w0 fz0 B m las a w hs;have quiet:BY P sm o=some i→(match ax b i σ with
  | some (v,h)=>some (v,{ σ with h })
  | none=>none)=some (v,σ')→∃c w' m',Sim P w0 fz0 B m' las σ' a w'∧σ'.t=σ.t∧Ev m σ.h w m' σ'.h w'∧σ'.h.length=σ.h.length∧VRel w' m'.fz (RefR w' m' σ'.h (Lof las)) v c ∧
  ∀(fr:Frame) (ops:Array Oper) (j:Nat) (rest:List Nat) (k:List Item) (cs:List Frame),ops[j]? = some o→Region.wanted o (yielded ops a.tmps)=true →
   Steps P (lone (fr.atR a (.inRegion ops (j::rest)::k)) cs w) (lone (fr.atR (a.put o.dst c) (.inRegion ops rest::k)) cs w'):=by
  intro hc hx;split at hx
  ·rename_i v1 h1 hax;simp only [Option.some.injEq,Prod.mk.injEq] at hx;obtain ⟨rfl,rfl⟩:=hx;obtain ⟨c,w',m',go,s1,e1,l1,vr⟩:=AfS hs hc hax;exact ⟨c,w',m',s1,rfl,e1,l1,vr,go⟩
  ·cases hx
 have noCall:BY P sm o=some i→evO G (n+1) i b σ=(match ax b i σ with
  | some (v,h)=>some (v,{ σ with h })
  | none=>none):=by
  intro hc;cases i<;>first|rfl|skip
  all_goals
   exfalso;simp only [BY] at hc;split at hc<;>(first|cases hc|skip)
   all_goals (repeat' (split at hc))<;>first|cases hc|(simp at hc)
 have hc0:YS P sm o=some i:=by
  cases h0:YS P sm o with
  | none =>
    simp only [AfR,h0,Option.getD_none,Option.some.injEq] at hc;subst hc;simp [evO,ax] at hx
  | some i0=>simp only [AfR,h0,Option.getD_some,Option.some.injEq] at hc;rw [hc]
 replace hc:=hc0;clear hc0;unfold YS at hc;split at hc
 ·rename_i cl hop;split at hc
  ·rename_i f hcal;split at hc
   ·rename_i fn hfn;split at hc
    ·rename_i hb;cases has:opds cl.args.toList with
     | none=>simp [has] at hc
     | some ys =>
       simp only [has,Option.map_some,Option.some.injEq] at hc;subst hc;simp only [evO] at hx;have hargs:=opds_rel hs.tr has;rw [←Array.toList_map] at hargs;obtain ⟨c,w',m',s1,et,e1,l1,vr,hL⟩:=hK f _ b _ σ v σ' hx w0 fz0 B m las a w (cl.args.map a.eval) hs hargs;have hr:(execOp a.eval o).run P w = .ok (.enter f (cl.args.map a.eval)) w:=by
        simp only [execOp,hop,resolve,hcal,Act.eval,Deferred.ofValue];simp [Sem.run_bind,invoke,Result.andThen,Le hfn hb.1 hb.2]
       exact ⟨c,w',m',s1,et,e1,l1,vr,fun fr ops j rest k cs ho hw=>VG hL (by rw [hop];intro c h;cases h) hr fr ops j rest k cs ho hw⟩
    ·cases hc
   ·cases hc
  ·rename_i t hcal;cases has:opds cl.args.toList with
   | none=>simp [has] at hc
   | some ys =>
     simp only [has,Option.map_some,Option.some.injEq] at hc;subst hc;simp only [evO] at hx;have hargs:=opds_rel hs.tr has;rw [←Array.toList_map] at hargs;have hv:=hs.tr.get (a:=a) (x:=.tmp t) (y:=.t t) rfl;split at hx
     ·rename_i f cps hg;rw [hg] at hv;obtain ⟨vs,e1,hcps⟩:=inv_fn hv;obtain ⟨F,hF⟩:=callF_some hx;obtain ⟨sm',hcF⟩:=hG f F hF;obtain ⟨fn,code,hfn,hbd,hnm,_⟩:=compF_some hcF;have hall:=hargs.app hcps;rw [show (cl.args.map a.eval).toList++vs.toList=(cl.args.map a.eval++vs).toList by simp] at hall;obtain ⟨c,w',m',s1,et,e2,l1,vr,hL⟩:=hK f _ b _ σ v σ' hx w0 fz0 B m las a w (cl.args.map a.eval++vs) hs hall;have hr:(execOp a.eval o).run P w = .ok (.enter f (cl.args.map a.eval++vs)) w:=by
       simp only [execOp,hop,resolve,hcal,e1,Deferred.ofValue];simp [Sem.run_bind,invoke,Result.andThen,Le hfn hnm (by rw [hbd];rfl)]
      exact ⟨c,w',m',s1,et,e2,l1,vr,fun fr ops j rest k cs ho hw=>VG hL (by rw [hop];intro c h;cases h) hr fr ops j rest k cs ho hw⟩
     ·rename_i l hg;rw [hg] at hv;obtain ⟨la,e1,hla⟩:=hv.inv_ref rfl;obtain ⟨c,w',m',s1,et,e2,l1,vr,fn,tmps,asg,body,hy,hst⟩:=hY l _ σ v σ' hx w0 fz0 B m las a w (cl.args.map a.eval) la hs hargs hla;have hr:(execOp a.eval o).run P w = .ok (.round la fn tmps asg body) w:=by
       simp only [execOp,hop,resolve,hcal,e1,Deferred.ofValue];simp [Sem.run_bind,invoke,Result.andThen,hy]
      refine ⟨c,w',m',s1,et,e2,l1,vr,fun fr ops j rest k cs ho hw=>?_⟩;refine .head (Zd ho hw (by rw [hop];intro c h;cases h) hr) ?_;have:=hst (fr.atR a (.inRegion ops (j::rest)::k)) cs;rw [SK ho] at this;exact this
     ·cases hx
  ·rw [noCall hc] at hx;exact quiet hc hx
 ·rw [noCall hc] at hx;exact quiet hc hx
end
end Go.Mw
namespace Go.Mw
open Go.RowKit
section
variable {P:Program}{w0:World}{fz0:Nat→Prop}{B:Nat}{m m':Mem}{w w':World}{las:Las}{h h':List Ob}{σ σ':St}{a:Act}
theorem All2.imp {α β:Type}{R S:α→β→Prop}{l:List α}{k:List β}(h:All2 R l k)(hi:∀a b,R a b→S a b):All2 S l k:=by
 induction h with
 | nil=>exact .nil
 | cons h _ ih=>exact .cons (hi _ _ h) ih
theorem TS {α β:Type}(g:α→Sem β):∀(l:List α) (rs:List β),All2 (fun a r=>(g a).run P w = .ok r w) l rs→(l.mapM g).run P w = .ok rs w:=by
 intro l;induction l with
 | nil=>intro rs h;cases h;simp
 | cons x l ih =>
   intro rs h;cases h with
   | cons h1 h2=>simp [List.mapM_cons,h1,ih _ h2]
theorem AiF (hr:Rel w0 fz0 m σ.h w)(ht:TR w m σ.h (Lof las) σ.t a.tmps):∀ {rv:List ResultVar}{res:List (Nat×Option (Bool×Nat))}{rs:List AV},JE P rv=some res→resT σ res=some rs →
 ∃cs:List Value,VRels w m.fz (RefR w m σ.h (Lof las)) rs cs ∧
  All2 (fun (x:ResultVar) c=>(match x with
   | .tmp t=>(pure (a.tmps.getD t undef):Sem Value)
   | .cell b t=>do loadVar t (←asAddr (a.tmps.getD b undef)):Sem Value).run P w = .ok c w) rv cs:=by
 intro rv;induction rv with
 | nil =>
   intro res rs h1 h2;simp [JE] at h1;subst h1;simp [resT] at h2;subst h2;exact ⟨[],⟨rfl,fun j v c h=>by simp at h⟩,.nil⟩
 | cons x rv ih =>
   intro res rs h1 h2;have cons:∀ {v:AV}{vs:List AV}{c:Value}{cs:List Value},VRel w m.fz (RefR w m σ.h (Lof las)) v c→VRels w m.fz (RefR w m σ.h (Lof las)) vs cs→VRels w m.fz (RefR w m σ.h (Lof las)) (v::vs) (c::cs):=by
    intro v vs c cs h k;refine ⟨by simp [k.1],fun j v' c' hv hc=>?_⟩;cases j with
    | zero=>simp at hv hc;subst hv;subst hc;exact h
    | succ j=>exact k.2 j v' c' (by simpa using hv) (by simpa using hc)
   cases x with
   | tmp t =>
     simp only [JE] at h1;cases h3:JE P rv with
     | none=>simp [h3] at h1
     | some r3 =>
       simp [h3] at h1;subst h1;simp only [resT] at h2;cases h4:σ.t[t]? with
       | none=>simp [h4] at h2
       | some v =>
         cases h5:resT σ r3 with
         | none=>simp [h4,h5] at h2
         | some vs =>
           simp [h4,h5] at h2;subst h2;obtain ⟨cs,k1,k2⟩:=ih h3 h5;have hlt:t<a.tmps.size:=by rw [ht.size];exact List.lt_of_some h4
           have hv:=ht.rel t v _ h4 (Array.getElem?_eq_getElem hlt);exact ⟨a.tmps[t]::cs,cons hv k1,.cons (by simp [Array.getD,hlt]) k2⟩
   | cell b t =>
     simp only [JE] at h1;split at h1
     ·rename_i ag n r3 g1 g2 g3;split at h1
      ·rename_i g4;cases h1;simp only [resT] at h2;split at h2
       ·rename_i v hh vs g5 g6;cases h2;obtain ⟨cs,k1,k2⟩:=ih g3 g6;obtain ⟨_,c,k3,k4⟩:=Akj (P:=P) (a:=a) (o:={ dst:=none,op:=.load t (.tmp b),type:=0,pos := "", after := #[],guard:=none }) ht hr rfl g1 g2 g4 rfl g5;refine ⟨c::cs,cons k4 k1,.cons ?_ k2⟩;simp only [execOp,Act.eval,Instr.loadAt,Sem.run_bind] at k3;cases hp:a.tmps.getD b undef<;>simp only [hp] at k3 ⊢
        case pointer q =>
         cases q with
         | none=>simp [Instr.sureAddr,Result.andThen,stuck,Sem.run] at k3
         | some A =>
           simp only [Instr.sureAddr,asAddr,Sem.run_bind,Sem.run_pure,Result.andThen] at k3 ⊢;generalize (loadVar t A).run P w=r at k3 ⊢;cases r<;>simp at k3;obtain ⟨rfl,rfl⟩:=k3;rfl
        all_goals (simp [Instr.sureAddr,Result.andThen,stuck,Sem.run] at k3)
       ·cases h2
      ·cases h1
     ·cases h1
theorem results_rel (hr:Rel w0 fz0 m σ.h w)(ht:TR w m σ.h (Lof las) σ.t a.tmps){fn:Func}{res:List (Nat×Option (Bool×Nat))}{rs:List AV}(h1:JE P fn.results.toList=some res)(h2:resT σ res=some rs) :
 ∃cs:List Value,VRels w m.fz (RefR w m σ.h (Lof las)) rs cs∧(results fn a.tmps).run P w = .ok (KX cs) w:=by
 obtain ⟨cs,k1,k2⟩:=AiF hr ht h1 h2;refine ⟨cs,k1,?_⟩;unfold results;rw [Sem.run_bind,Array.mapM_eq_mapM_toList,map_eq_pure_bind,Sem.run_bind,TS _ _ cs (k2.imp (fun x c h=>by cases x<;>exact h))];simp only [Result.andThen,Sem.run_pure,KX]
theorem Ad8 {la:Nat}{r:Option (List Deferred)}{r':Obj}(ho:w.heap[la]? = some (.deferred r)) :
 (∀(b:Nat) (arr:Array Value) (ty:TypeId),w.heap[b]? = some (.cells arr ty (0,0))→∃arr':Array Value,(w.putObj la r').heap[b]? = some (.cells arr' ty (0,0))∧arr'.size=arr.size) ∧
 (∀(b:Nat) (ents:Array MapEntry) (clock:Nat),w.heap[b]? = some (.map ents clock)→∃(ents':Array MapEntry) (clock':Nat),(w.putObj la r').heap[b]? = some (.map ents' clock')∧∀(i:Nat) (e:MapEntry),ents[i]? = some e→∃e':MapEntry,ents'[i]? = some e'∧e'.born=e.born)∧FKeep w (w.putObj la r') m.fz:=by
 have hoth:∀k,k≠la→(w.putObj la r').heap[k]? = w.heap[k]? := fun k hk=>World.putObj_heap_other hk;refine ⟨fun b arr ty hb=>?_,fun b en ck hb=>?_,fun b oo v hb hc=>?_⟩
 ·have hne:b≠la:=fun e=>by subst e;rw [ho] at hb;cases hb
  exact ⟨arr,by rw [hoth b hne];exact hb,rfl⟩
 ·have hne:b≠la:=fun e=>by subst e;rw [ho] at hb;cases hb
  exact ⟨en,ck,by rw [hoth b hne];exact hb,fun i e he=>⟨e,he,rfl⟩⟩
 ·by_cases e:b=la
  ·subst e;exfalso;unfold World.cell? at hc;simp [ho] at hc
  ·exact (World.cell?_of_block (a:=⟨b,oo,none⟩) (hoth b e)).trans hc
def Km (Ds:List Nat)(w:World):World:=Ds.foldl (fun w D=>w.putObj D (.deferred none)) w
theorem Aau (hB:w0.heap.size≤B){lp:List Lp}:∀(Ds:List Nat) (w:World),Rel w0 fz0 m h w→Lps P w0 m las h w lp→Ds.Nodup→(∀D∈Ds,B≤D∧w.heap[D]? = some (.deferred (some []))) →
 Rel w0 fz0 m h (Km Ds w)∧Lps P w0 m las h (Km Ds w) lp∧(∀k,k<B→(Km Ds w).heap[k]? = w.heap[k]?)∧(Km Ds w).heap.size=w.heap.size∧PD w (Km Ds w)∧FKeep w (Km Ds w) m.fz ∧
 ∀(fr:Frame) (cs:List Frame),fr.mode = .returning→fr.defers=Ds.map Ajh→Steps P (lone fr cs w) (lone { fr with defers:=[] } cs (Km Ds w)):=by
 intro Ds;induction Ds with
 | nil =>
   intro w hr hl _ _;refine ⟨hr,hl,fun _ _=>rfl,rfl,(WKeep.refl w).zero,FKeep.refl _ _,fun fr cs hm hd=>?_⟩;have:({ fr with defers:=[] }:Frame)=fr:=by
    have:fr.defers = []:=by simpa using hd
    cases fr;simp_all
   rw [this];exact .refl _ _
 | cons D Ds ih =>
   intro w hr hl hnd hD;obtain ⟨hBD,hDw⟩:=hD D (List.mem_cons_self ..);have hk:=run_takeDeferred (P:=P) hDw;have hr1:=hr.putRec (o':=.deferred none) hDw rfl (Nat.le_trans hB hBD);have hoth:∀k,k≠D→(w.putObj D (.deferred none)).heap[k]? = w.heap[k]? := fun k hk=>World.putObj_heap_other hk;have hev:=Ad8 (m:=m) (r':=.deferred none) hDw;have hl1:Lps P w0 m las h (w.putObj D (.deferred none)) lp:=by
    refine ⟨hl.len,hl.nd,fun l la top x e1 e2=>?_⟩;obtain ⟨g1,g0,r,g2,g3⟩:=hl.ok l la top x e1 e2;have hne:la≠D:=fun e=>by subst e;rw [hDw] at g2;cases g2
    exact ⟨g1,g0,r,by rw [hoth la hne];exact g2,g3.asg,g3.ps,⟨g3.tr.size,fun i v c h1 h2=>(g3.tr.rel i v c h1 h2).mono hev.2.2 (fun _ h=>h) (fun v c hr=>RefR.mono0 ⟨hev.1,hev.2.1⟩ (HStep.refl _ _) (fun _ _ h=>h) hr)⟩,g3.st,g3.pe,g3.pn⟩
   obtain ⟨h3,h4,h5,h6,h7,h8,h9⟩:=ih (w.putObj D (.deferred none)) hr1 hl1 (List.nodup_cons.1 hnd).2 (fun E hE=>by
    obtain ⟨e1,e2⟩:=hD E (List.mem_cons_of_mem _ hE);have hne:E≠D:=fun e=>by subst e;exact (List.nodup_cons.1 hnd).1 hE
    exact ⟨e1,by rw [hoth E hne];exact e2⟩)
   refine ⟨h3,h4,fun k hkk=>?_,?_,⟨fun b arr ty hb=>?_,fun b en ck hb=>?_⟩,hev.2.2.trans (fun _ h=>h) h8,fun fr cs hm hd=>?_⟩
   ·exact (h5 k hkk).trans (hoth k (by omega))
   ·exact h6.trans (by simp)
   ·obtain ⟨a1,q1,s1⟩:=hev.1 b arr ty hb;obtain ⟨a2,q2,s2⟩:=h7.1 b a1 ty q1;exact ⟨a2,q2,s2.trans s1⟩
   ·obtain ⟨e1,c1,q1,k1⟩:=hev.2.1 b en ck hb;obtain ⟨e2,c2,q2,k2⟩:=h7.2 b e1 c1 q1;refine ⟨e2,c2,q2,fun i e he=>?_⟩;obtain ⟨e',g1,g2⟩:=k1 i e he;obtain ⟨e'',g3,g4⟩:=k2 i e' g1;exact ⟨e'',g3,g4.trans g2⟩
   ·have h1:=step_collected (P:=P) (fr:=fr) (cs:=cs) (d:=Ajh D) (r:=D) (ds:=Ds.map Ajh) (calls:=[]) (by rw [hm];intro h;cases h) (by rw [hd];rfl) rfl hk;exact .head h1 (h9 { fr with defers:=[]++Ds.map Ajh } cs hm (by simp))
theorem Ah7 (ns:Nat):Ev m h w m (h++List.replicate ns Jv) w:=by
 refine ⟨fun r o ho=>⟨o,by rw [List.getElem?_append_left (List.lt_of_some ho)];exact ho,BQ.refl _ _ _⟩,(WKeep.refl w).1,(WKeep.refl w).2.1,FKeep.refl _ _,fun _ h=>h,fun _ _ h=>h,Nat.le_refl _⟩
theorem Rel.gones (hr:Rel w0 fz0 m h w)(ns:Nat):Rel w0 fz0 m (h++List.replicate ns Jv) w:=by
 refine hr.congr (fun r p nd hn hi=>?_);obtain ⟨o,e,hnav⟩:=Ac.1 hn;rcases Nat.lt_or_ge r h.length with hlt|hge
 ·rw [List.getElem?_append_left hlt] at e;exact Ac.2 ⟨o,e,hnav⟩
 ·rw [List.getElem?_append_right hge] at e;have:=List.eq_of_mem_replicate (List.mem_of_getElem? e);subst this;exact (Hg hnav hi).elim
theorem RecOk.ev {lp:Lp}{r:Loop}{ls:Las}(he:Ev m h w m' h' w')(hk:RecOk P w m h ls lp r):RecOk P w' m' h' ls lp r :=
 ⟨hk.asg,hk.ps,hk.tr.ev he (fun _ _ h=>h),hk.st,hk.pe,hk.pn⟩
theorem Lps.ev' {lp:List Lp}(hl:Lps P w0 m las h w lp)(he:Ev m h w m' h' w')(hh:∀l la,Lof las l la→w'.heap[la]? = w.heap[la]?):Lps P w0 m' las h' w' lp:=by
 refine ⟨hl.len,hl.nd,fun l la top x h1 h2=>?_⟩;obtain ⟨g1,g0,r,g2,g3⟩:=hl.ok l la top x h1 h2;exact ⟨g1,Nat.le_trans g0 he.st.len,r,by rw [hh l la ⟨top,h1⟩];exact g2,g3.ev (he.cut top)⟩
theorem AaF {G:Prg}(hG:AiE P G){n:Nat}(hC:CodeS P (evC G n)):FunS P G (runF G (n+1)):=by
 intro f F xs h lp rs σ1 hF hx hnp w0 fz0 m las w args hargs hr hl;obtain ⟨sm,hcF⟩:=hG f F hF;obtain ⟨fn,code,hfn,hbd,hnm,hcc,hres,hnt⟩:=compF_some hcF;simp only at hcc hres hnt;let σ0:St:={ t:=xs++List.replicate (F.nt-F.np) (.tup []),h:=h++List.replicate F.ns Jv,lp };have key:∃e,(e = .nrm∨e = .ret)∧evC G n F.body h.length σ0=some (e,σ1)∧resT σ1 F.res=some rs:=by
  simp only [runF] at hx;split at hx
  ·rename_i σ2 hev;split at hx
   ·rename_i rs' hre;cases hx;exact ⟨.nrm,.inl rfl,hev,hre⟩
   ·cases hx
  ·rename_i σ2 hev;split at hx
   ·rename_i rs' hre;cases hx;exact ⟨.ret,.inr rfl,hev,hre⟩
   ·cases hx
  ·cases hx
 obtain ⟨e,he,hev,hre⟩:=key;have hasz:args.size=F.np:=by rw [←hnp,←hargs.1];simp
 let a0:Act:={ tmps:=args++Array.replicate (fn.ntmps-args.size) undef,defers:=[] };have hgev:Ev m h w m σ0.h w:=Ah7 F.ns;have hs0:Sim P w0 fz0 w.heap.size m las σ0 a0 w:=by
  refine ⟨⟨?_,fun i v c hv hc=>?_⟩,hr.gones _,hl.ev' hgev (fun _ _ _=>rfl),⟨[],rfl,List.nodup_nil,fun D hD=>by cases hD⟩,hr.below.size,Nat.le_refl _⟩
  ·simp only [a0,σ0,Array.size_append,Array.size_replicate,List.length_append,List.length_replicate];omega
  ·simp only [σ0] at hv;simp only [a0] at hc;rcases Nat.lt_or_ge i xs.length with hlt|hge
   ·rw [List.getElem?_append_left hlt] at hv;rw [Array.getElem?_append_left (by omega)] at hc;exact (hargs.2 i v c hv (by rw [Array.getElem?_toList];exact hc)).ev hgev (fun _ _ h=>h)
   ·rw [List.getElem?_append_right hge] at hv;have e1:=List.eq_of_mem_replicate (List.mem_of_getElem? hv);rw [Array.getElem?_append_right (by omega),Array.getElem?_replicate] at hc;split at hc
    ·cases hc;subst e1;exact Vg
    ·cases hc
 let b:Frame:={ (default:Frame) with fn:=f,kind:=.normal,roundOf:=none };obtain ⟨a1,w1,m1,s1,e1,l1,go⟩:=hC F.body h.length σ0 e σ1 hev sm code hcc w0 fz0 _ m las a0 w hs0 b (fun la h=>by cases h);obtain ⟨Ds,hDs,hnd,hD⟩:=s1.dfs;have henter:Frame.enter P f args .normal=b.atR a0 [.code code]:=by
  simp [Frame.enter,Frame.atR,hfn,hbd,b,a0]
 have hret:∀cs,∃todo,Steps P (lone (Frame.enter P f args .normal) cs w) (lone { b.atR a1 todo with mode:=.returning } cs w1):=by
  intro cs;have:=go [] cs;rw [←henter] at this;rcases he with rfl|rfl
  ·exact ⟨[],Steps.trans this (.one (stepR_end rfl))⟩
  ·obtain ⟨k0,hk⟩:=this;exact ⟨.code .ret::k0,hk.trans (.one (stepR_ret rfl))⟩
 obtain ⟨t1,t2,t3,t4,t5,t6,t7⟩:=Aau (P:=P) (las:=las) hr.below.size Ds w1 s1.rel s1.lps hnd hD;have htr:TR (Km Ds w1) m1 σ1.h (Lof las) σ1.t a1.tmps:=⟨s1.tr.size,fun i v c h1 h2=>(s1.tr.rel i v c h1 h2).mono t6 (fun _ h=>h) (fun v c hr=>RefR.mono0 t5 (HStep.refl _ _) (fun _ _ h=>h) hr)⟩;obtain ⟨cs,c1,c2⟩:=results_rel t1 htr hres hre;refine ⟨m1,Km Ds w1,cs,c1,t1,t2,?_,?_,fun stk=>?_⟩
 ·have e2:=hgev.trans e1;refine ⟨e2.st,fun b arr ty hb=>?_,fun b en ck hb=>?_,e2.fk.trans e2.fz t6,e2.fz,fun b ds hb=>?_,by rw [t4];exact e2.sz⟩
  ·obtain ⟨a1,q1,s1⟩:=e2.cel b arr ty hb;obtain ⟨a2,q2,s2⟩:=t5.1 b a1 ty q1;exact ⟨a2,q2,s2.trans s1⟩
  ·obtain ⟨e1,c1,q1,k1⟩:=e2.map b en ck hb;obtain ⟨e2,c2,q2,k2⟩:=t5.2 b e1 c1 q1;refine ⟨e2,c2,q2,fun i e he=>?_⟩;obtain ⟨e',g1,g2⟩:=k1 i e he;obtain ⟨e'',g3,g4⟩:=k2 i e' g1;exact ⟨e'',g3,g4.trans g2⟩
  ·rw [t3 b (Array.getElem?_eq_some_iff.1 hb).1];exact e2.dfr b ds hb
 ·rw [l1];simp [σ0]
 ·obtain ⟨todo,hst⟩:=hret stk;refine ⟨{ { b.atR a1 todo with mode:=.returning } with defers:=[] },hst.trans (t7 _ stk rfl hDs),rfl,rfl,rfl,rfl,fn,hfn,c2⟩
end
end Go.Mw
namespace Go.Mw
open Go.RowKit
section
variable {P:Program}{w0:World}{fz0:Nat→Prop}{B:Nat}{m m':Mem}{w w':World}{las:Las}{h h':List Ob}{σ σ':St}{a:Act}
theorem ML {B r st ss:Nat}{p:Path}(hr:r<B):node (h.take B) r st p ss=node h r st p ss:=by
 unfold node;rw [List.getElem?_take_of_lt hr]
theorem RefR.take {L L':Nat→Nat→Prop}(hb:m'.blk=m.blk){v:AV}{c:Value}{B:Nat}(hi:v.isRef=true)(hlt:∀r∈rootsOf v,r<B)(hex:∃r,r∈rootsOf v)(hr:RefR w m h L v c):RefR w m' (h.take B) L' v c:=by
 cases v<;>simp only [AV.isRef,Bool.false_eq_true] at hi
 case sl r st p ss off len =>
  have hlt:r<B:=hlt r (by simp [rootsOf]);obtain ⟨o,h1,h2,h3,h4⟩:=hr;refine ⟨o,by rw [List.getElem?_take_of_lt hlt];exact h1,h2,h3,fun es xs hn=>?_⟩;rw [ML hlt] at hn;obtain ⟨g1,g2⟩:=h4 es xs hn;exact ⟨g1,g2.mono0 (WKeep.refl w).zero (by rw [hb])⟩
 case ptr r st p ss i j =>
  have hlt:r<B:=hlt r (by simp [rootsOf]);obtain ⟨o,h1,h2,h3,h4⟩:=hr;refine ⟨o,by rw [List.getElem?_take_of_lt hlt];exact h1,h2,h3,fun es xs hn=>?_⟩;rw [ML hlt] at hn;rw [hb];exact h4 es xs hn
 case mp r st p ss =>
  have hlt:r<B:=hlt r (by simp [rootsOf]);obtain ⟨o,h1,h2,h3,h4⟩:=hr;refine ⟨o,by rw [List.getElem?_take_of_lt hlt];exact h1,h2,h3,fun es hn=>?_⟩;rw [ML hlt] at hn;rw [hb];exact h4 es hn
 case ent r st p ss i =>
  have hlt:r<B:=hlt r (by simp [rootsOf]);obtain ⟨o,h1,h2,h3,h4⟩:=hr;refine ⟨o,by rw [List.getElem?_take_of_lt hlt];exact h1,h2,h3,fun es hn=>?_⟩;rw [ML hlt] at hn;rw [hb];exact h4 es hn
 case yld=>obtain ⟨r,hr⟩:=hex;simp [rootsOf] at hr
theorem Jx {R:AV→Value→Prop}{fz:Nat→Prop}{rs:List AV}{cs:List Value}(h:VRels w fz R rs cs):VRel w fz R (packV rs) (KX cs):=by
 obtain ⟨hl,hr⟩:=h;have tup:cs.length≠1→VRel w fz R (.tup rs) (KX cs):=by
  intro hne;unfold KX;rw [dif_neg (by simpa using hne)];exact .tup _ _ (by simpa using hl) (fun j c v hc hv=>hr j c v hc (by simpa using hv))
 match rs,cs,hl with
 | [],[],_=>exact tup (by simp)
 | [v],[c],_=>simp only [packV,KX];simpa using hr 0 v c rfl rfl
 | _::_::_,[_],hl=>simp at hl
 | v::u::rs,c::d::cs,_=>exact tup (by simp)
theorem K4 (hr:Rel w0 fz0 m h w){X:Nat→Prop}{L:Nat→Nat→Prop}{B:Nat}{R':AV→Value→Prop}
 (hR:∀v c,v.isRef=true→(∀r∈rootsOf v,r<B)→(∃r,r∈rootsOf v)→RefR w m h L v c→R' v c) {xs:List AV}{cs:List Value}(hv:VRels w m.fz (RefR w m h L) xs cs) (hx:∀r∈rootsL xs,r<B∨X r) :
 VRels w (m.freeze h X).fz R' (treeBL B h xs) cs:=by
 refine ⟨by rw [treeBL_map];simpa using hv.1,fun j v c h1 h2=>?_⟩;rw [treeBL_map,List.getElem?_map] at h1;cases hx':xs[j]? with
 | none=>simp [hx'] at h1
 | some x =>
   simp [hx'] at h1;subst h1;exact UT hr hR (hv.2 j x c hx' h2) (fun r hr=>hx r (D7 (List.mem_of_getElem? hx') hr))
theorem Rel.adopt {m1:Mem}(R0:Rel w0 fz0 m h w){r s st es:Nat}{xs:List AV}{p0:Path}(hn:NodeF w m1 r p0 (.own es xs))(hfz:∀b,m1.fz b→m.fz b)(hlo:w0.heap.size≤(m1.blk r p0).1∧¬m.fz (m1.blk r p0).1)
 (hne:∀r2 p2 nd,nodeAt h r2 p2=some nd→isNode nd=true→(m.blk r2 p2).1≠(m1.blk r p0).1) (hpl:xs.all (fun e:AV=>e.cells.all AV.plain)=true) (hnew:newOb h s (.own es xs)=some (h',st)) :
 ∃m2:Mem,Rel w0 fz0 m2 h' w∧HStep m m2 h h'∧m2.fz=m.fz∧m2.blk s []=m1.blk r p0:=by
 obtain ⟨ob,hob,hgone,rfl,rfl⟩:=A9 hnew;have hsl:=List.lt_of_some hob;let m2:Mem:={ blk:=fun r2 p2=>if r2=s then m1.blk r p0 else m.blk r2 p2,fz:=m.fz };have hself:∀p,m2.blk s p=m1.blk r p0:=fun p=>by simp [m2]
 have hoth:∀r2 p,r2≠s→m2.blk r2 p=m.blk r2 p:=fun r2 p h=>by simp [m2,h]
 have hnode:∀r2 p2 nd,nodeAt (h.set s { st:=ob.st+1,ss:=0,c:=.own es xs }) r2 p2=some nd→isNode nd=true→(r2=s∧p2 = []∧nd = .own es xs)∨(r2≠s∧nodeAt h r2 p2=some nd):=by
  intro r2 p2 nd h2 hi;obtain ⟨o2,e2,n2⟩:=Ac.1 h2;by_cases er:r2=s
  ·subst er;rw [List.getElem?_set_self hsl] at e2;cases e2;cases p2 with
   | nil=>rw [nav_nil] at n2;cases n2;exact .inl ⟨rfl,rfl,rfl⟩
   | cons x q =>
     obtain ⟨i,j⟩:=x;obtain ⟨es1,xs1,e,d,h3,he,hd,hq⟩:=(AF ..).1 n2;cases h3;simp only [List.all_eq_true] at hpl;have h4:=hpl e (List.mem_of_getElem? he) d (List.mem_of_getElem? hd);have:=BW hq hi;rw [(C4 h4).2] at this;cases this
  ·rw [List.getElem?_set_ne (fun h=>er h.symm)] at e2;exact .inr ⟨er,Ac.2 ⟨o2,e2,n2⟩⟩
 refine ⟨m2,⟨R0.below,R0.fzlt,R0.fzin,R0.fzge,fun r2 p2 nd h2=>?_,fun r2 p2 nd h2 hi=>?_,fun r2 p2 nd r4 p4 nd4 h2 hi h4 hi4 he=>?_⟩,HStep.new hnew (fun r p h _=>hoth r p h),rfl,hself []⟩
 ·by_cases hi:isNode nd=true
  ·rcases hnode r2 p2 nd h2 hi with ⟨rfl,rfl,rfl⟩|⟨hne2,h5⟩
   ·obtain ⟨k0,arr,ty,k1,k2⟩:=hn;refine ⟨k0,arr,ty,by rw [hself];exact k1,fun i e hi=>?_⟩;obtain ⟨k3,k4⟩:=k2 i e hi;refine ⟨k3,fun j c hj=>?_⟩;obtain ⟨k5,v,k6,k7,k8⟩:=k4 j c hj;simp only [List.all_eq_true] at hpl;have h4:=hpl e (List.mem_of_getElem? hi) c (List.mem_of_getElem? hj);refine ⟨k5,v,by rw [hself];exact k6,k7,?_⟩;have hnn:=(C4 h4).2;have:VRel0 w m1.fz c v:=by cases c<;>first|exact k8|(simp [AV.plain] at h4;done)
    exact Kb hnn (this.mono (fun _ _ _ _ h=>h) hfz)
   ·refine (R0.nodes r2 p2 nd h5).mono0 (m:=m) (m':=m2) (WKeep.refl w).zero (FKeep.refl _ _) (fun _ h=>h) (hoth _ _ hne2) (fun _ _ _ _ _ _ _ _ _ _=>hoth _ _ hne2) (fun _=>rfl)
  ·cases nd<;>first|trivial|exact absurd rfl hi
 ·rcases hnode r2 p2 nd h2 hi with ⟨rfl,rfl,rfl⟩|⟨hne2,h5⟩
  ·rw [hself];exact hlo
  ·rw [hoth _ _ hne2];exact R0.lo _ _ _ h5 hi
 ·rcases hnode r2 p2 nd h2 hi with ⟨rfl,rfl,rfl⟩|⟨hne2,h5⟩
  ·rcases hnode r4 p4 nd4 h4 hi4 with ⟨rfl,rfl,rfl⟩|⟨hne4,h6⟩
   ·exact ⟨rfl,rfl⟩
   ·rw [hself,hoth _ _ hne4] at he;exact absurd he.symm (hne _ _ _ h6 hi4)
  ·rcases hnode r4 p4 nd4 h4 hi4 with ⟨rfl,rfl,rfl⟩|⟨hne4,h6⟩
   ·rw [hself,hoth _ _ hne2] at he;exact absurd he (hne _ _ _ h5 hi)
   ·rw [hoth _ _ hne2,hoth _ _ hne4] at he;exact R0.inj _ _ _ _ _ _ h5 hi h6 hi4 he
theorem Rel.adoptT {m1:Mem}{w1:World}{fz1:Nat→Prop}{h1:List Ob}(R0:Rel w0 fz0 m h w)(R1:Rel w1 fz1 m1 h1 w){r s st es:Nat}{xs:List AV}{p0:Path}(hn:nodeAt h1 r p0=some (.own es xs))(hfz:∀b,m1.fz b→m.fz b)
 (hlo:∀q nd,nodeAt h1 r (p0++q)=some nd→isNode nd=true→w0.heap.size≤(m1.blk r (p0++q)).1∧¬m.fz (m1.blk r (p0++q)).1)
 (hne:∀q nd1,nodeAt h1 r (p0++q)=some nd1→isNode nd1=true→∀r2 p2 nd,nodeAt h r2 p2=some nd→isNode nd=true→(m.blk r2 p2).1≠(m1.blk r (p0++q)).1)
 (hnew:newOb h s (.own es xs)=some (h',st)) :
 ∃m2:Mem,Rel w0 fz0 m2 h' w∧HStep m m2 h h'∧m2.fz=m.fz∧(∀q,m2.blk s q=m1.blk r (p0++q)) ∧
  (∀r2 p2 nd,nodeAt h' r2 p2=some nd→(r2=s∧nodeAt h1 r (p0++p2)=some nd)∨(nodeAt h r2 p2=some nd∧m2.blk r2 p2=m.blk r2 p2)):=by
 obtain ⟨ob,hob,hgone,rfl,rfl⟩:=A9 hnew;have hsl:=List.lt_of_some hob;let m2:Mem:={ blk:=fun r2 p2=>if r2=s then m1.blk r (p0++p2) else m.blk r2 p2,fz:=m.fz };have hself:∀p,m2.blk s p=m1.blk r (p0++p):=fun p=>by simp [m2]
 have hoth:∀r2 p,r2≠s→m2.blk r2 p=m.blk r2 p:=fun r2 p h=>by simp [m2,h]
 have hnode:∀r2 p2 nd,nodeAt (h.set s { st:=ob.st+1,ss:=0,c:=.own es xs }) r2 p2=some nd→(r2=s∧nodeAt h1 r (p0++p2)=some nd)∨(r2≠s∧nodeAt h r2 p2=some nd):=by
  intro r2 p2 nd h2;obtain ⟨o2,e2,n2⟩:=Ac.1 h2;by_cases er:r2=s
  ·subst er;rw [List.getElem?_set_self hsl] at e2;cases e2;exact .inl ⟨rfl,Ee hn n2⟩
  ·rw [List.getElem?_set_ne (fun h=>er h.symm)] at e2;exact .inr ⟨er,Ac.2 ⟨o2,e2,n2⟩⟩
 refine ⟨m2,⟨R0.below,R0.fzlt,R0.fzin,R0.fzge,fun r2 p2 nd h2=>?_,fun r2 p2 nd h2 hi=>?_,fun r2 p2 nd r4 p4 nd4 h2 hi h4 hi4 he=>?_⟩,HStep.new hnew (fun r p h _=>hoth r p h),rfl,hself,fun r2 p2 nd h2=>?_⟩
 ·rcases hnode r2 p2 nd h2 with ⟨rfl,h5⟩|⟨hne2,h5⟩
  ·exact (R1.nodes r _ nd h5).mono0 (m:=m1) (m':=m2) (WKeep.refl w).zero (FKeep.refl _ _) hfz (hself p2) (fun i j e c es xs _ _ _ _=>by rw [hself,List.append_assoc]) (fun _=>rfl)
  ·exact (R0.nodes r2 p2 nd h5).mono0 (m:=m) (m':=m2) (WKeep.refl w).zero (FKeep.refl _ _) (fun _ h=>h) (hoth _ _ hne2) (fun _ _ _ _ _ _ _ _ _ _=>hoth _ _ hne2) (fun _=>rfl)
 ·rcases hnode r2 p2 nd h2 with ⟨rfl,h5⟩|⟨hne2,h5⟩
  ·rw [hself];exact hlo _ _ h5 hi
  ·rw [hoth _ _ hne2];exact R0.lo _ _ _ h5 hi
 ·rcases hnode r2 p2 nd h2 with ⟨rfl,h5⟩|⟨hne2,h5⟩
  ·rcases hnode r4 p4 nd4 h4 with ⟨rfl,h6⟩|⟨hne4,h6⟩
   ·rw [hself,hself] at he;exact ⟨rfl,List.append_cancel_left (R1.inj _ _ _ _ _ _ h5 hi h6 hi4 he).2⟩
   ·rw [hself,hoth _ _ hne4] at he;exact absurd he.symm (hne _ _ h5 hi _ _ _ h6 hi4)
  ·rcases hnode r4 p4 nd4 h4 with ⟨rfl,h6⟩|⟨hne4,h6⟩
   ·rw [hself,hoth _ _ hne2] at he;exact absurd he (hne _ _ h6 hi4 _ _ _ h5 hi)
   ·rw [hoth _ _ hne2,hoth _ _ hne4] at he;exact R0.inj _ _ _ _ _ _ h5 hi h6 hi4 he
 ·rcases hnode r2 p2 nd h2 with h5|⟨hne2,h5⟩
  ·exact .inl h5
  ·exact .inr ⟨h5,hoth _ _ hne2⟩
theorem Lt {R:AV→Value→Prop}{fz fz':Nat→Prop}{v:AV}{c:Value}(h:VRel w fz R v c)(hf:v.flat=true):VRel0 w' fz' v c:=by
 cases h with
 | base _ _ h =>
   cases h<;>first|(simp [AV.flat] at hf;done)|skip
   case undef=>exact .undef _
   case bool=>exact .bool _
   case int=>exact .int _ _
   case str=>exact .str _
   case nilp=>exact .nilp
   case nils=>exact .nils
   case nilm=>exact .nilm
   case nilf=>exact .nilf
   case emp=>exact .emp _
   case ne=>exact .ne _ _
   case lstn=>exact .lstn
   case lst xs A cap es vs hcap hfz hes hc hr =>
    cases xs with
    | cons x xs=>simp [AV.flat] at hf
    | nil=>exact .lst [] A cap es vs hcap (fun h=>by simp at h) (fun i e h=>by simp at h) (fun i e j c h=>by simp at h) (fun i e j c h=>by simp at h)
 | ref _ _ hv _=>cases v<;>simp [AV.isRef,AV.flat] at hv hf
 | _=>simp [AV.flat] at hf
theorem U5 {R:AV→Value→Prop}{fz fz':Nat→Prop}{v:AV}{c:Value}(h:VRel w fz R v c)(hf:v.flats=true):VRel0 w' fz' v c:=by
 have agg:∀ {cs:List AV}{c:Value},VRel w fz R (.agg cs) c→cs.all AV.flat=true→VRel0 w' fz' (.agg cs) c:=by
  intro cs c h hf;obtain ⟨X,rfl,hX,h1,rX⟩:=h.inv_agg;simp only [List.all_eq_true] at hf;exact .agg _ _ hX (fun j c v hc hv=>h1 j c v hc hv) (fun j c v hc hv=>Lt (rX j c v hc hv) (hf c (List.mem_of_getElem? hc)))
 cases v
 case agg cs=>exact agg h (by simpa [AV.flats] using hf)
 case tup vs =>
  simp only [AV.flats,List.all_eq_true] at hf;have:∃X:Array Value,c = .tuple X∧X.size=vs.length∧∀(j:Nat) (d:AV) (u:Value),vs[j]? = some d→X[j]? = some u→VRel w fz R d u:=by
   cases h with
   | base _ _ h=>cases h with|tup _ X hl hr=>exact ⟨X,rfl,hl,fun j d u h1 h2=>.base _ _ (hr j d u h1 h2)⟩
   | tup _ X hl hr=>exact ⟨X,rfl,hl,hr⟩
   | ref _ _ h=>cases h
  obtain ⟨X,rfl,hl,hr⟩:=this;refine .tup _ _ hl (fun j d u h1 h2=>?_);have h3:=hf d (List.mem_of_getElem? h1);have h4:=hr j d u h1 h2;split at h3
  ·exact agg h4 h3
  ·exact Lt h4 h3
 all_goals exact Lt h hf
theorem M7 {h h':List Ob}{r st:Nat}{c:AV}(hk:newOb h r c=some (h',st)):h'.length=h.length:=by
 obtain ⟨o,_,_,_,rfl⟩:=A9 hk;simp
structure Way (w0:World)(fz0:Nat→Prop)(B:Nat)(m1:Mem)(h1:List Ob)(w:World)(m:Mem)(h:List Ob)(D:List (Nat×Path)):Prop where
 rel:Rel w0 fz0 m h w
 fz:∀b,m1.fz b→m.fz b
 lo:∀r p nd,B≤r→nodeAt h1 r p=some nd→isNode nd=true→w0.heap.size≤(m1.blk r p).1∧¬m.fz (m1.blk r p).1
 ne:∀r p nd,B≤r→nodeAt h1 r p=some nd→isNode nd=true→(∀d∈D,d.1=r→¬d.2 <+: p)→∀r2 p2 nd2,nodeAt h r2 p2=some nd2→isNode nd2=true→(m.blk r2 p2).1≠(m1.blk r p).1
theorem Abp {D:List (Nat×Path)}{r:Nat}{p q:Path}(h:YL D r p=true):∀d∈D,d.1=r→¬d.2 <+: (p++q):=by
 intro d hd e hp;have h1:=List.all_eq_true.1 h d hd;simp only [Bool.or_eq_true,bne_iff_ne,ne_eq,XT,Bool.and_eq_true,Bool.not_eq_true',Bool.eq_false_iff,List.isPrefixOf_iff_prefix] at h1;rcases h1 with h1|⟨h1,h2⟩
 ·exact h1 e
 ·rcases List.prefix_or_prefix_of_prefix hp (List.prefix_append p q) with h3|h3
  ·exact h1 h3
  ·exact h2 h3
theorem give1_sound {m1 m3:Mem}{w1:World}{fz1:Nat→Prop}{h1 h0 hf:List Ob}{L1 L:Nat→Nat→Prop}{B b:Nat}{ss ss':List Nat}{D D':List (Nat×Path)}{v u:AV}{c:Value}
 (R1:Rel w1 fz1 m1 h1 w) (W:Way w0 fz0 B m1 h1 w m3 h0 D) (hv:VRel w m1.fz (RefR w m1 h1 L1) v c) (hg:O5 B h1 b D ss h0 v=some (u,D',ss',hf)) :
 ∃m4:Mem,Way w0 fz0 B m1 h1 w m4 hf D'∧Ev m3 h0 w m4 hf w∧hf.length=h0.length∧VRel w m4.fz (RefR w m4 hf L) u c∧(v.one=true→u.one=true):=by
 unfold O5 at hg;split at hg
 ·simp only [Option.some.injEq,Prod.mk.injEq] at hg;obtain ⟨rfl,rfl,rfl,rfl⟩:=hg;exact ⟨m3,W,Ev.refl _ _ _,rfl,.base _ _ (Lt hv rfl),id⟩
 ·simp only [Option.some.injEq,Prod.mk.injEq] at hg;obtain ⟨rfl,rfl,rfl,rfl⟩:=hg;exact ⟨m3,W,Ev.refl _ _ _,rfl,.base _ _ (Lt hv rfl),id⟩
 ·rename_i r st p sb off len;split at hg
  ·rename_i s ss;split at hg
   ·rename_i hc;obtain ⟨hB,hoff⟩:=hc;split at hg
    ·rename_i es xs hnd;split at hg
     ·rename_i hc2;obtain ⟨rfl,rfl⟩:=hc2;split at hg
      ·rename_i hf' st' hnew;simp only [Option.some.injEq,Prod.mk.injEq] at hg;obtain ⟨rfl,rfl,rfl,rfl⟩:=hg;obtain ⟨m4,q1,q2,q3,q4,q5⟩:=W.rel.adoptT R1 (CK hnd) W.fz (fun q nd h hi=>W.lo _ _ _ hB h hi) (fun q nd1 h hi=>W.ne _ _ _ hB h hi (Abp hoff)) hnew;have hev:Ev m3 h0 w m4 hf' w:=⟨q2,(WKeep.refl w).1,(WKeep.refl w).2.1,FKeep.refl _ _,fun b hb=>by rw [q3];exact hb,fun _ _ h=>h,Nat.le_refl _⟩;refine ⟨m4,⟨q1,fun b hb=>by rw [q3];exact W.fz b hb,fun r2 p2 nd hB2 h2 hi=>by rw [q3];exact W.lo r2 p2 nd hB2 h2 hi,fun r2 p2 nd hB2 h2 hi hD r4 p4 nd4 h4 hi4=>?_⟩,hev,M7 hnew,?_,fun _=>rfl⟩
       ·rcases q5 _ _ _ h4 with ⟨rfl,h5⟩|⟨h5,e⟩
        ·rw [q4];intro e;obtain ⟨e1,e2⟩:=R1.inj _ _ _ _ _ _ h5 hi4 h2 hi e;exact hD (r,p) (List.mem_cons_self ..) e1 (by rw [←e2];exact List.prefix_append _ _)
        ·rw [e];exact W.ne _ _ _ hB2 h2 hi (fun d hd=>hD d (List.mem_cons_of_mem _ hd)) _ _ _ h5 hi4
       ·obtain ⟨o1,g1,g2,g3,g4⟩:=hv.inv_ref rfl;obtain ⟨ob,hob,hgone,rfl,rfl⟩:=A9 hnew;have hsl:=List.lt_of_some hob;obtain ⟨g5,g6⟩:=g4 _ _ hnd;refine .ref _ _ rfl ⟨{ st:=ob.st+1,ss:=0,c:=.own es xs },List.getElem?_set_self hsl,Nat.le_refl _,fun _ h=>absurd rfl h,fun es2 xs2 hn2=>?_⟩;obtain ⟨o',e1,e2,e3,e4⟩:=Bf.1 hn2;rw [List.getElem?_set_self hsl] at e1;cases e1;rw [nav_nil] at e4;cases e4;refine ⟨by omega,?_⟩;exact g6.mono0 (WKeep.refl w).zero (m':=m4) (r':=b+s) (p':=[]) (by rw [q4,List.append_nil])
      ·cases hg
     ·cases hg
    ·cases hg
   ·cases hg
  ·cases hg
 ·split at hg
  ·rename_i hfl;simp only [Option.some.injEq,Prod.mk.injEq] at hg;obtain ⟨rfl,rfl,rfl,rfl⟩:=hg;exact ⟨m3,W,Ev.refl _ _ _,rfl,.base _ _ (Lt hv hfl),id⟩
  ·cases hg
theorem giveC_sound {m1:Mem}{w1:World}{fz1:Nat→Prop}{h1:List Ob}{L1 L:Nat→Nat→Prop}{B b:Nat}(R1:Rel w1 fz1 m1 h1 w):∀(vs:List AV) {m3:Mem}{h0 hf:List Ob}{ss ss':List Nat}{D D':List (Nat×Path)}{us:List AV}{cs:List Value},
 Way w0 fz0 B m1 h1 w m3 h0 D→VRels w m1.fz (RefR w m1 h1 L1) vs cs→Ng B h1 b D ss h0 vs=some (us,D',ss',hf) →
 ∃m4:Mem,Way w0 fz0 B m1 h1 w m4 hf D'∧Ev m3 h0 w m4 hf w∧hf.length=h0.length∧VRels w m4.fz (RefR w m4 hf L) us cs∧∀(j:Nat) (v u:AV),vs[j]? = some v→us[j]? = some u→v.one=true→u.one=true
 | [],m3,h0,hf,ss,ss',D,D',us,cs,W,hv,hg=>by
   simp only [Ng,Option.some.injEq,Prod.mk.injEq] at hg;obtain ⟨rfl,rfl,rfl,rfl⟩:=hg;exact ⟨m3,W,Ev.refl _ _ _,rfl,⟨hv.1,fun j v c h=>by simp at h⟩,fun j v u h=>by simp at h⟩
 | v::vs,m3,h0,hf,ss,ss',D,D',us,cs,W,hv,hg=>by
   obtain ⟨c,ds,rfl⟩:∃c ds,cs=c::ds:=by
    match cs,hv.1 with
    | c::ds,_=>exact ⟨c,ds,rfl⟩
   simp only [Ng] at hg;split at hg
   ·rename_i u D1 ss1 hh e1;split at hg
    ·rename_i us1 D2 ss2 hh2 e2;simp only [Option.some.injEq,Prod.mk.injEq] at hg;obtain ⟨rfl,rfl,rfl,rfl⟩:=hg;obtain ⟨m4,W4,ev4,l4,v4,o4⟩:=give1_sound (L:=L) R1 W (hv.2 0 v c rfl rfl) e1;obtain ⟨m5,W5,ev5,l5,v5,o5⟩:=giveC_sound R1 vs W4 ⟨by simpa using hv.1,fun j x d h2 h3=>hv.2 (j+1) x d (by simpa using h2) (by simpa using h3)⟩ e2;refine ⟨m5,W5,ev4.trans ev5,l5.trans l4,⟨by simpa using v5.1,fun j x d h2 h3=>?_⟩,fun j x y h2 h3=>?_⟩
     ·cases j with
      | zero=>simp at h2 h3;subst h2 h3;exact v4.ev ev5 (fun _ _ h=>h)
      | succ j=>exact v5.2 j x d (by simpa using h2) (by simpa using h3)
     ·cases j with
      | zero=>simp at h2 h3;subst h2 h3;exact o4
      | succ j=>exact o5 j x y (by simpa using h2) (by simpa using h3)
    ·cases hg
   ·cases hg
theorem giveL_sound {m1:Mem}{w1:World}{fz1:Nat→Prop}{h1:List Ob}{L1 L:Nat→Nat→Prop}{B b:Nat}(R1:Rel w1 fz1 m1 h1 w):∀(vs:List AV) {m3:Mem}{h0 hf:List Ob}{ss ss':List Nat}{D D':List (Nat×Path)}{us:List AV}{cs:List Value},
 Way w0 fz0 B m1 h1 w m3 h0 D→VRels w m1.fz (RefR w m1 h1 L1) vs cs→Ms B h1 b D ss h0 vs=some (us,D',ss',hf) →
 ∃m4:Mem,Way w0 fz0 B m1 h1 w m4 hf D'∧Ev m3 h0 w m4 hf w∧hf.length=h0.length∧VRels w m4.fz (RefR w m4 hf L) us cs
 | [],m3,h0,hf,ss,ss',D,D',us,cs,W,hv,hg=>by
   simp only [Ms,Option.some.injEq,Prod.mk.injEq] at hg;obtain ⟨rfl,rfl,rfl,rfl⟩:=hg;exact ⟨m3,W,Ev.refl _ _ _,rfl,⟨hv.1,fun j v c h=>by simp at h⟩⟩
 | v::vs,m3,h0,hf,ss,ss',D,D',us,cs,W,hv,hg=>by
   obtain ⟨c,ds,rfl⟩:∃c ds,cs=c::ds:=by
    match cs,hv.1 with
    | c::ds,_=>exact ⟨c,ds,rfl⟩
   simp only [Ms] at hg;split at hg
   ·rename_i u D1 ss1 hh e1;split at hg
    ·rename_i us1 D2 ss2 hh2 e2;simp only [Option.some.injEq,Prod.mk.injEq] at hg;obtain ⟨rfl,rfl,rfl,rfl⟩:=hg;have key:∃m4:Mem,Way w0 fz0 B m1 h1 w m4 hh D1∧Ev m3 h0 w m4 hh w∧hh.length=h0.length∧VRel w m4.fz (RefR w m4 hh L) u c:=by
      split at e1
      ·rename_i xs;split at e1
       ·rename_i us0 x0 e0;simp only [Option.some.injEq,Prod.mk.injEq] at e1;obtain ⟨rfl,rfl⟩:=e1;obtain ⟨X,rfl,hX,hone,rX⟩:=(hv.2 0 _ c rfl rfl).inv_agg;obtain ⟨m4,W4,ev4,l4,v4,o4⟩:=giveC_sound (L:=L) R1 xs (cs:=X.toList) W ⟨by simpa using hX,fun j x d h2 h3=>rX j x d h2 (by simpa using h3)⟩ e0;refine ⟨m4,W4,ev4,l4,.agg _ _ (by have:=v4.1;simpa using this) (fun j x d h2 h3=>?_) (fun j x d h2 h3=>v4.2 j x d h2 (by simpa using h3))⟩;have hlt:=List.lt_of_some h2;have hl1:=v4.1;have hl2:j<xs.length:=by simp at hl1;omega
        obtain ⟨k1,k2⟩:=hone j _ d (List.getElem?_eq_getElem hl2) h3;exact ⟨o4 j _ x (List.getElem?_eq_getElem hl2) h2 k1,k2⟩
       ·cases e1
      ·obtain ⟨m4,W4,ev4,l4,v4,_⟩:=give1_sound (L:=L) R1 W (hv.2 0 v c rfl rfl) e1;exact ⟨m4,W4,ev4,l4,v4⟩
     obtain ⟨m4,W4,ev4,l4,v4⟩:=key;obtain ⟨m5,W5,ev5,l5,v5⟩:=giveL_sound R1 vs W4 ⟨by simpa using hv.1,fun j x d h2 h3=>hv.2 (j+1) x d (by simpa using h2) (by simpa using h3)⟩ e2;refine ⟨m5,W5,ev4.trans ev5,l5.trans l4,⟨by simpa using v5.1,fun j x d h2 h3=>?_⟩⟩;cases j with
     | zero=>simp at h2 h3;subst h2 h3;exact v4.ev ev5 (fun _ _ h=>h)
     | succ j=>exact v5.2 j x d (by simpa using h2) (by simpa using h3)
    ·cases hg
   ·cases hg
theorem give1_flat {h1 h0 hf:List Ob}{B b:Nat}{ss ss':List Nat}{D D':List (Nat×Path)}{v u:AV}(hv:v.flat=true)(hg:O5 B h1 b D ss h0 v=some (u,D',ss',hf)):u=v∧hf=h0:=by
 unfold O5 at hg;split at hg
 ·simp only [Option.some.injEq,Prod.mk.injEq] at hg;exact ⟨hg.1.symm,hg.2.2.2.symm⟩
 ·simp only [Option.some.injEq,Prod.mk.injEq] at hg;exact ⟨hg.1.symm,hg.2.2.2.symm⟩
 ·simp [AV.flat] at hv
 ·rw [if_pos hv] at hg;simp only [Option.some.injEq,Prod.mk.injEq] at hg;exact ⟨hg.1.symm,hg.2.2.2.symm⟩
theorem Se {h1:List Ob}{B b:Nat}:∀(vs:List AV) {h0 hf:List Ob}{ss ss':List Nat}{D D':List (Nat×Path)}{us:List AV},vs.all AV.flat=true→Ng B h1 b D ss h0 vs=some (us,D',ss',hf)→us=vs∧hf=h0
 | [],h0,hf,ss,ss',D,D',us,hv,hg=>by
   simp only [Ng,Option.some.injEq,Prod.mk.injEq] at hg;exact ⟨hg.1.symm,hg.2.2.2.symm⟩
 | v::vs,h0,hf,ss,ss',D,D',us,hv,hg=>by
   simp only [List.all_cons,Bool.and_eq_true] at hv;simp only [Ng] at hg;split at hg
   ·rename_i u D1 ss1 hh e1;split at hg
    ·rename_i us1 D2 ss2 hh2 e2;simp only [Option.some.injEq,Prod.mk.injEq] at hg;obtain ⟨rfl,rfl,rfl,rfl⟩:=hg;obtain ⟨rfl,rfl⟩:=give1_flat hv.1 e1;obtain ⟨rfl,rfl⟩:=Se vs hv.2 e2;exact ⟨rfl,rfl⟩
    ·cases hg
   ·cases hg
theorem giveL_flat {h1:List Ob}{B b:Nat}:∀(vs:List AV) {h0 hf:List Ob}{ss ss':List Nat}{D D':List (Nat×Path)}{us:List AV},vs.all AV.flats=true→Ms B h1 b D ss h0 vs=some (us,D',ss',hf)→us=vs∧hf=h0
 | [],h0,hf,ss,ss',D,D',us,hv,hg=>by
   simp only [Ms,Option.some.injEq,Prod.mk.injEq] at hg;exact ⟨hg.1.symm,hg.2.2.2.symm⟩
 | v::vs,h0,hf,ss,ss',D,D',us,hv,hg=>by
   simp only [List.all_cons,Bool.and_eq_true] at hv;simp only [Ms] at hg;split at hg
   ·rename_i u D1 ss1 hh e1;split at hg
    ·rename_i us1 D2 ss2 hh2 e2;simp only [Option.some.injEq,Prod.mk.injEq] at hg;obtain ⟨rfl,rfl,rfl,rfl⟩:=hg;have key:u=v∧hh=h0:=by
      split at e1
      ·rename_i xs;split at e1
       ·rename_i us0 x0 e0;simp only [Option.some.injEq,Prod.mk.injEq] at e1;obtain ⟨rfl,rfl⟩:=e1;obtain ⟨rfl,rfl⟩:=Se xs hv.1 e0;exact ⟨rfl,rfl⟩
       ·cases e1
      ·rename_i hna;have hf:v.flat=true:=by
        cases v<;>first|exact hv.1|(exact absurd rfl (hna _))|skip
        simp [O5,AV.flat] at e1
       exact give1_flat hf e1
     obtain ⟨rfl,rfl⟩:=key;obtain ⟨rfl,rfl⟩:=giveL_flat vs hv.2 e2;exact ⟨rfl,rfl⟩
    ·cases hg
   ·cases hg
theorem give_sound {m1 m3:Mem}{w1:World}{fz1:Nat→Prop}{h1 h0 hf:List Ob}{L1 L:Nat→Nat→Prop}{fo:Bool}{B b:Nat}{ss:List Nat}{rs:List AV}{cs:List Value}{v:AV}
 (R1:Rel w1 fz1 m1 h1 w) (hrs:VRels w m1.fz (RefR w m1 h1 L1) rs cs) (hg:NQ fo B h1 h0 b ss rs=some (v,hf))
 (R3:Rel w0 fz0 m3 h0 w)
 (htree:fo=false→VRels w m3.fz (RefR w m3 h0 L) (treeBL B h1 rs) cs)
 (hown:fo=true→rs.all AV.flats=false→(∀b,m1.fz b→m3.fz b)∧∀r p nd,B≤r→nodeAt h1 r p=some nd→isNode nd=true→(w0.heap.size≤(m1.blk r p).1∧¬m3.fz (m1.blk r p).1)∧∀r2 p2 nd2,nodeAt h0 r2 p2=some nd2→isNode nd2=true→(m3.blk r2 p2).1≠(m1.blk r p).1)
 (hlow:fo=true→∀v c,v.isRef=true→(∀r∈rootsOf v,r<B)→(∃r,r∈rootsOf v)→RefR w m1 h1 L1 v c→RefR w m3 h0 L v c) :
 ∃m4:Mem,Rel w0 fz0 m4 hf w∧Ev m3 h0 w m4 hf w∧hf.length=h0.length∧VRel w m4.fz (RefR w m4 hf L) v (KX cs):=by
 unfold NQ at hg;split at hg
 ·rename_i r st p s2 off len s;split at hg
  ·rename_i hBr;split at hg
   ·rename_i es xs hnd;split at hg
    ·rename_i hc;obtain ⟨rfl,rfl,hpl⟩:=hc;split at hg
     ·rename_i hf' st' hnew;simp only [Option.some.injEq,Prod.mk.injEq] at hg;obtain ⟨rfl,rfl⟩:=hg;obtain ⟨k1,k2⟩:=hown rfl rfl;obtain ⟨k3,k4⟩:=k2 r _ _ hBr (CK hnd) rfl;obtain ⟨m4,q1,q2,q3,q4⟩:=R3.adopt (R1.nodes _ _ _ (CK hnd)) k1 k3 k4 hpl hnew;have hlen:=M7 hnew;have hev:Ev m3 h0 w m4 hf' w:=⟨q2,(WKeep.refl w).1,(WKeep.refl w).2.1,FKeep.refl _ _,fun b hb=>by rw [q3];exact hb,fun _ _ h=>h,Nat.le_refl _⟩;refine ⟨m4,q1,hev,hlen,?_⟩;have hcs:∃c,cs = [c]:=by
       match cs,hrs.1 with
       | [c],_=>exact ⟨c,rfl⟩
      obtain ⟨c,rfl⟩:=hcs;have hv:=hrs.2 0 _ c rfl rfl;obtain ⟨o1,g1,g2,g3,g4⟩:=hv.inv_ref rfl;obtain ⟨ob,hob,hgone,rfl,rfl⟩:=A9 hnew;have hsl:=List.lt_of_some hob;obtain ⟨g5,g6⟩:=g4 _ _ hnd;refine .ref _ _ rfl ⟨{ st:=ob.st+1,ss:=0,c:=.own es xs },List.getElem?_set_self hsl,Nat.le_refl _,fun _ h=>absurd rfl h,fun es2 xs2 hn2=>?_⟩;obtain ⟨o',e1,e2,e3,e4⟩:=Bf.1 hn2;rw [List.getElem?_set_self hsl] at e1;cases e1;rw [nav_nil] at e4;cases e4;refine ⟨by omega,?_⟩;have:=g6.mono0 (WKeep.refl w).zero (m':=m4) (r':=b+s) (p':=[]) q4;simpa [KX] using this
     ·cases hg
    ·cases hg
   ·cases hg
  ·rename_i hBr;simp only [Option.some.injEq,Prod.mk.injEq] at hg;obtain ⟨rfl,rfl⟩:=hg;have hcs:∃c,cs = [c]:=by
    match cs,hrs.1 with
    | [c],_=>exact ⟨c,rfl⟩
   obtain ⟨c,rfl⟩:=hcs;have hv:=hrs.2 0 _ c rfl rfl;refine ⟨m3,R3,Ev.refl _ _ _,rfl,?_⟩;have hq:RefR w m3 h0 L (.sl r st p s2 off len) c:=hlow rfl _ _ rfl (fun r2 hr2=>by simp [rootsOf] at hr2;omega) ⟨r,by simp [rootsOf]⟩ (hv.inv_ref rfl);exact (.ref _ _ rfl hq:VRel w m3.fz (RefR w m3 h0 L) (.sl r st p s2 off len) c)
 ·rename_i r st p s2 off len κ n s;split at hg
  ·rename_i hBr;split at hg
   ·rename_i es xs hnd;split at hg
    ·rename_i hc;obtain ⟨rfl,rfl,hpl⟩:=hc;split at hg
     ·rename_i hf' st' hnew;simp only [Option.some.injEq,Prod.mk.injEq] at hg;obtain ⟨rfl,rfl⟩:=hg;obtain ⟨k1,k2⟩:=hown rfl rfl;obtain ⟨k3,k4⟩:=k2 r _ _ hBr (CK hnd) rfl;obtain ⟨m4,q1,q2,q3,q4⟩:=R3.adopt (R1.nodes _ _ _ (CK hnd)) k1 k3 k4 hpl hnew;have hlen:=M7 hnew;have hev:Ev m3 h0 w m4 hf' w:=⟨q2,(WKeep.refl w).1,(WKeep.refl w).2.1,FKeep.refl _ _,fun b hb=>by rw [q3];exact hb,fun _ _ h=>h,Nat.le_refl _⟩;refine ⟨m4,q1,hev,hlen,?_⟩;have hcs:∃c d,cs = [c,d]:=by
       match cs,hrs.1 with
       | [c,d],_=>exact ⟨c,d,rfl⟩
      obtain ⟨c,d,rfl⟩:=hcs;have hd:=(hrs.2 1 _ d rfl rfl).inv_int;subst hd;refine Jx (rs:=[_,_]) ⟨rfl,fun j v x hj hx=>?_⟩
      match j,hj,hx with
      | 1,hj,hx =>
        simp only [List.getElem?_cons_succ,List.getElem?_cons_zero,Option.some.injEq] at hj hx;subst hj;subst hx;exact .base _ _ (.int _ _)
      | 0,hj,hx=>?_
      simp only [List.getElem?_cons_zero,Option.some.injEq] at hj hx;subst hj;subst hx;have hv:=hrs.2 0 _ c rfl rfl;obtain ⟨o1,g1,g2,g3,g4⟩:=hv.inv_ref rfl;obtain ⟨ob,hob,hgone,rfl,rfl⟩:=A9 hnew;have hsl:=List.lt_of_some hob;obtain ⟨g5,g6⟩:=g4 _ _ hnd;refine .ref _ _ rfl ⟨{ st:=ob.st+1,ss:=0,c:=.own es xs },List.getElem?_set_self hsl,Nat.le_refl _,fun _ h=>absurd rfl h,fun es2 xs2 hn2=>?_⟩;obtain ⟨o',e1,e2,e3,e4⟩:=Bf.1 hn2;rw [List.getElem?_set_self hsl] at e1;cases e1;rw [nav_nil] at e4;cases e4;refine ⟨by omega,?_⟩;have:=g6.mono0 (WKeep.refl w).zero (m':=m4) (r':=b+s) (p':=[]) q4;simpa using this
     ·cases hg
    ·cases hg
   ·cases hg
  ·cases hg
 ·rename_i κ n r st p s2 off len s;split at hg
  ·rename_i hBr;split at hg
   ·rename_i es xs hnd;split at hg
    ·rename_i hc;obtain ⟨rfl,rfl,hpl⟩:=hc;split at hg
     ·rename_i hf' st' hnew;simp only [Option.some.injEq,Prod.mk.injEq] at hg;obtain ⟨rfl,rfl⟩:=hg;obtain ⟨k1,k2⟩:=hown rfl rfl;obtain ⟨k3,k4⟩:=k2 r _ _ hBr (CK hnd) rfl;obtain ⟨m4,q1,q2,q3,q4⟩:=R3.adopt (R1.nodes _ _ _ (CK hnd)) k1 k3 k4 hpl hnew;have hlen:=M7 hnew;have hev:Ev m3 h0 w m4 hf' w:=⟨q2,(WKeep.refl w).1,(WKeep.refl w).2.1,FKeep.refl _ _,fun b hb=>by rw [q3];exact hb,fun _ _ h=>h,Nat.le_refl _⟩;refine ⟨m4,q1,hev,hlen,?_⟩;have hcs:∃c d,cs = [c,d]:=by
       match cs,hrs.1 with
       | [c,d],_=>exact ⟨c,d,rfl⟩
      obtain ⟨c,d,rfl⟩:=hcs;have hd:=(hrs.2 0 _ c rfl rfl).inv_int;subst hd;refine Jx (rs:=[_,_]) ⟨rfl,fun j v x hj hx=>?_⟩
      match j,hj,hx with
      | 0,hj,hx =>
        simp only [List.getElem?_cons_zero,Option.some.injEq] at hj hx;subst hj;subst hx;exact .base _ _ (.int _ _)
      | 1,hj,hx=>?_
      simp only [List.getElem?_cons_succ,List.getElem?_cons_zero,Option.some.injEq] at hj hx;subst hj;subst hx;have hv:=hrs.2 1 _ d rfl rfl;obtain ⟨o1,g1,g2,g3,g4⟩:=hv.inv_ref rfl;obtain ⟨ob,hob,hgone,rfl,rfl⟩:=A9 hnew;have hsl:=List.lt_of_some hob;obtain ⟨g5,g6⟩:=g4 _ _ hnd;refine .ref _ _ rfl ⟨{ st:=ob.st+1,ss:=0,c:=.own es xs },List.getElem?_set_self hsl,Nat.le_refl _,fun _ h=>absurd rfl h,fun es2 xs2 hn2=>?_⟩;obtain ⟨o',e1,e2,e3,e4⟩:=Bf.1 hn2;rw [List.getElem?_set_self hsl] at e1;cases e1;rw [nav_nil] at e4;cases e4;refine ⟨by omega,?_⟩;have:=g6.mono0 (WKeep.refl w).zero (m':=m4) (r':=b+s) (p':=[]) q4;simpa using this
     ·cases hg
    ·cases hg
   ·cases hg
  ·rename_i hBr;simp only [Option.some.injEq,Prod.mk.injEq] at hg;obtain ⟨rfl,rfl⟩:=hg;have hcs:∃c d,cs = [c,d]:=by
    match cs,hrs.1 with
    | [c,d],_=>exact ⟨c,d,rfl⟩
   obtain ⟨c,d,rfl⟩:=hcs;have hd:=(hrs.2 0 _ c rfl rfl).inv_int;subst hd;refine ⟨m3,R3,Ev.refl _ _ _,rfl,Jx (rs:=[_,_]) ⟨rfl,fun j v x hj hx=>?_⟩⟩
   match j,hj,hx with
   | 0,hj,hx =>
     simp only [List.getElem?_cons_zero,Option.some.injEq] at hj hx;subst hj;subst hx;exact .base _ _ (.int _ _)
   | 1,hj,hx =>
     simp only [List.getElem?_cons_succ,List.getElem?_cons_zero,Option.some.injEq] at hj hx;subst hj;subst hx;have hv:=hrs.2 1 _ d rfl rfl;exact .ref _ _ rfl (hlow rfl _ _ rfl (fun r2 hr2=>by simp [rootsOf] at hr2;omega) ⟨r,by simp [rootsOf]⟩ (hv.inv_ref rfl))
 ·simp only [Option.some.injEq,Prod.mk.injEq] at hg;obtain ⟨rfl,rfl⟩:=hg;have hcs:∃c d,cs = [c,d]:=by
   match cs,hrs.1 with
   | [c,d],_=>exact ⟨c,d,rfl⟩
  obtain ⟨c,d,rfl⟩:=hcs;have h0:=(hrs.2 0 _ c rfl rfl).inv_nils;have h1:=(hrs.2 1 _ d rfl rfl).inv_int;subst h0;subst h1;refine ⟨m3,R3,Ev.refl _ _ _,rfl,Jx (rs:=[_,_]) ⟨rfl,fun j v x hj hx=>?_⟩⟩
  match j,hj,hx with
  | 0,hj,hx =>
    simp only [List.getElem?_cons_zero,Option.some.injEq] at hj hx;subst hj;subst hx;exact .base _ _ .nils
  | 1,hj,hx =>
    simp only [List.getElem?_cons_succ,List.getElem?_cons_zero,Option.some.injEq] at hj hx;subst hj;subst hx;exact .base _ _ (.int _ _)
 ·simp only [Option.some.injEq,Prod.mk.injEq] at hg;obtain ⟨rfl,rfl⟩:=hg;have hcs:∃c d,cs = [c,d]:=by
   match cs,hrs.1 with
   | [c,d],_=>exact ⟨c,d,rfl⟩
  obtain ⟨c,d,rfl⟩:=hcs;obtain ⟨A,h0⟩:=(hrs.2 0 _ c rfl rfl).inv_emp;have h1:=(hrs.2 1 _ d rfl rfl).inv_int;subst h0;subst h1;refine ⟨m3,R3,Ev.refl _ _ _,rfl,Jx (rs:=[_,_]) ⟨rfl,fun j v x hj hx=>?_⟩⟩
  match j,hj,hx with
  | 0,hj,hx =>
    simp only [List.getElem?_cons_zero,Option.some.injEq] at hj hx;subst hj;subst hx;exact .base _ _ (.emp A)
  | 1,hj,hx =>
    simp only [List.getElem?_cons_succ,List.getElem?_cons_zero,Option.some.injEq] at hj hx;subst hj;subst hx;exact .base _ _ (.int _ _)
 ·simp only [Option.some.injEq,Prod.mk.injEq] at hg;obtain ⟨rfl,rfl⟩:=hg;have hcs:∃c,cs = [c]:=by
   match cs,hrs.1 with
   | [c],_=>exact ⟨c,rfl⟩
  obtain ⟨c,rfl⟩:=hcs;have hv:=hrs.2 0 _ c rfl rfl;refine ⟨m3,R3,Ev.refl _ _ _,rfl,?_⟩;rw [hv.inv_nils];exact .base _ _ (.emp none)
 ·simp only [Option.some.injEq,Prod.mk.injEq] at hg;obtain ⟨rfl,rfl⟩:=hg;have hcs:∃c,cs = [c]:=by
   match cs,hrs.1 with
   | [c],_=>exact ⟨c,rfl⟩
  obtain ⟨c,rfl⟩:=hcs;have hv:=hrs.2 0 _ c rfl rfl;obtain ⟨A,e⟩:=hv.inv_emp;refine ⟨m3,R3,Ev.refl _ _ _,rfl,?_⟩;rw [e];exact .base _ _ (.emp A)
 ·split at hg
  ·rename_i vs D' ss' hf' e;simp only [Option.some.injEq,Prod.mk.injEq] at hg;obtain ⟨rfl,rfl⟩:=hg;rcases Bool.eq_false_or_eq_true (rs.all AV.flats) with hfl|hfl
   ·obtain ⟨rfl,rfl⟩:=giveL_flat _ hfl e;exact ⟨m3,R3,Ev.refl _ _ _,rfl,Jx ⟨hrs.1,fun j x c h2 h3=>.base _ _ (U5 (hrs.2 j x c h2 h3) (List.all_eq_true.1 hfl x (List.mem_of_getElem? h2)))⟩⟩
   ·obtain ⟨k1,k2⟩:=hown rfl hfl;obtain ⟨m4,W4,ev4,l4,v4⟩:=giveL_sound (L:=L) R1 rs (D:=[]) ⟨R3,k1,fun r p nd hB h2 hi=>(k2 r p nd hB h2 hi).1,fun r p nd hB h2 hi _=>(k2 r p nd hB h2 hi).2⟩ hrs e;exact ⟨m4,W4.rel,ev4,l4,Jx v4⟩
  ·cases hg
 ·simp only [Option.some.injEq,Prod.mk.injEq] at hg;obtain ⟨rfl,rfl⟩:=hg;exact ⟨m3,R3,Ev.refl _ _ _,rfl,Jx (htree rfl)⟩
end
end Go.Mw
