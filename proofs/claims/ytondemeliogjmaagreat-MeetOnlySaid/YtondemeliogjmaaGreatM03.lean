/- From the model's operations to the abstract ones. -/
import Derived.Test.YtondemeliogjmaaGreatM02
import Derived.Walk
import Derived.WalkKit
import Derived.Laws.Cover3
set_option linter.unusedVariables false
set_option linter.unusedSimpArgs false
namespace Go.Mw
open Go.RowKit
def ofL (f:Value→Option AV):List Value→Option (List AV)
 | []=>some []
 | v::vs=>match f v with
   | some x=>match ofL f vs with
     | some xs=>some (x::xs)
     | none=>none
   | none=>none
def AiJ:Value→Option AV
 | .bool b=>some (.bool b)
 | .int k n=>some (.int k n)
 | .string s=>some (.str s)
 | .pointer none=>some .nilp
 | .slice none 0 0=>some .nils
 | .map none=>some .nilm
 | .nilFunc=>some .nilf
 | .func (.func f) first caps=>if first.toList = []∧caps.toList = [] then some (.fn f []) else none
 | _=>none
def ofV:Value→Option AV
 | .agg cs=>(ofL AiJ cs.toList).map .agg
 | v=>AiJ v
def opd:Operand→Option Opd
 | .tmp t=>some (.t t)
 | .const v=>(ofV v).map .c
 | .func f=>some (.c (.fn f []))
 | .global _=>none
def opds:List Operand→Option (List Opd)
 | []=>some []
 | x::xs=>match opd x with
   | some y=>match opds xs with
     | some ys=>some (y::ys)
     | none=>none
   | none=>none
def Rn:Option Operand→Option (Option Opd)
 | none=>some none
 | some x=>(opd x).map some
def szT (P:Program)(t:TypeId):Option Nat:=(P.info? t).map (·.size)
def XJ (P:Program)(t:TypeId):Option Bool :=
 match P.underlying t with
 | some (.struct _)|some (.array ..)=>some true
 | some _=>some false
 | none=>none
def KL (P:Program)(t:TypeId):Option AV:=((P.info? t).bind (·.zero)).bind ofV
def Ld (P:Program)(t:TypeId):Option Nat :=
 if szT P t=some 1 then match P.underlying t with
  | some .bool=>some 0
  | some (.int _)=>some 1
  | some .string=>some 2
  | _=>none
 else none
def Ku (P:Program):Nat→List Field→Option (List Nat)
 | _,[]=>some []
 | i,f::fs=>if f.name ≠ "_" ∧ f.offset=i then match Ld P f.type,Ku P (i+1) fs with
    | some k,some ks=>some (k::ks)
    | _,_=>none
   else none
def UB (P:Program)(t:TypeId):Option (List Nat) :=
 match P.underlying t with
 | some (.struct fs)=>if P.stoodInHeld t=false then Ku P 0 fs.toList else none
 | some (.array n e)=>(Ld P e).map (List.replicate n)
 | _=>none
def Abr (P:Program)(t:TypeId):Option KK :=
 match Ld P t with
 | some k=>some (false,[k])
 | none=>(UB P t).map (true,·)
def Ahc (sm:List Nat)(d:Option Nat):Option Nat:=d.map (sm.idxOf ·)
def Sm (P:Program)(fs:Array Field):List (Nat×Operand)→Option (List (Nat×Nat×Opd))
 | []=>some []
 | (i,x)::ps=>match fs[i]? with
   | some f=>match szT P f.type,opd x,Sm P fs ps with
     | some n,some y,some r=>some ((f.offset,n,y)::r)
     | _,_,_=>none
   | none=>none
def RQ (n:Nat):List (Nat×Operand)→Option (List (Nat×Nat×Opd))
 | []=>some []
 | (i,x)::ps=>match opd x,RQ n ps with
   | some y,some r=>some ((i*n,n,y)::r)
   | _,_=>none
def Sl:Nat→List (Nat×Operand)→Option (List Opd)
 | _,[]=>some []
 | k,(i,x)::ps=>if i=k then match opd x,Sl (k+1) ps with
    | some y,some r=>some (y::r)
    | _,_=>none
   else none
def BY (P:Program)(sm:List Nat)(o:Oper):Option Ins :=
 match o.op with
 | .move x | .assign x=>(opd x).map .mov
 | .pick c a b=>match opd c,opd a,opd b with
   | some c,some a,some b=>some (.pick c a b)
   | _,_,_=>none
 | .alloc t=>match Ahc sm o.dst,szT P t,KL P t with
   | some s,some n,some z=>some (.alc s n z)
   | _,_,_=>none
 | .box t x=>match Ahc sm o.dst,szT P t,opd x with
   | some s,some n,some x=>some (if s<sm.length then .box s n x else .bxf x)
   | _,_,_=>none
 | .build t ps=>match KL P t with
   | some (.agg z)=>match P.underlying t with
     | some (.struct fs)=>if (fs.toList.all fun f=>(szT P f.type).isSome)=true then (Sm P fs ps.toList).map (.bld z) else none
     | some (.array _ e)=>match szT P e with
       | some n=>(RQ n ps.toList).map (.bld z)
       | none=>none
     | _=>none
   | _=>none
 | .buildSlice t len ps=>match P.underlying t with
   | some (.slice e)=>match Ahc sm o.dst,szT P e,Sl 0 ps.toList,KL P e with
     | some s,some n,some xs,some z=>if len*n≤1000∧z.cells.length=n then some (.bsl s n len xs) else none
     | _,_,_,_=>none
   | _=>none
 | .load t a=>match XJ P t,szT P t,opd a with
   | some ag,some n,some a=>if ag=true∨n=1 then some (.ld ag n a) else none
   | _,_,_=>none
 | .store t a x=>match szT P t,opd a,opd x with
   | some n,some a,some x=>some (.sto n a x)
   | _,_,_=>none
 | .binOp op t x y _=>match opd x,opd y with
   | some x',some y'=>match P.underlying t with
     | some (.int _)|some .string=>some (.bin op x' y')
     | some .bool=>match op with
       | .eql=>some (.beq false x' y')
       | .neq=>some (.beq true x' y')
       | _=>none
     | some (.slice _)=>match op with
       | .eql=>some (.nilc false x' y')
       | .neq=>some (.nilc true x' y')
       | _=>none
     | some (.struct _)|some (.array ..)=>match UB P t with
       | some ks=>if P.eqGuardType P.depth t=false then match op with
          | .eql=>some (.eqa false ks x' y')
          | .neq=>some (.eqa true ks x' y')
          | _=>none
         else none
       | none=>none
     | _=>none
   | _,_=>none
 | .unOp op _ x=>(opd x).map (.un op)
 | .convert src dst x=>match P.underlying src,P.underlying dst,opd x with
   | some _,some (.int k),some x=>some (.cvi k x)
   | _,_,_=>none
 | .makeFunc (.func f) first caps=>if first.isEmpty then (opds caps.toList).map (.mkf f) else none
 | .makeMap _ none=>(Ahc sm o.dst).map .mkm
 | .makeSlice t l c=>match P.underlying t with
   | some (.slice e)=>match Ahc sm o.dst,P.info? e,KL P e,opd l,opd c with
     | some s,some i,some z,some l,some c=>if z.cells.length=i.size∧z.cells.all AV.plain then some (.mks s i.size i.bytes z l c) else none
     | _,_,_,_,_=>none
   | _=>none
 | .slice t x lo hi mx=>match P.underlying t with
   | some (.slice e)=>match szT P e,opd x,Rn lo,Rn hi,Rn mx with
     | some n,some x,some lo,some hi,some mx=>some (.sli n x lo hi mx)
     | _,_,_,_,_=>none
   | some .string=>match opd x,Rn lo,Rn hi,mx with
     | some x,some lo,some hi,none=>some (.ssl x lo hi)
     | _,_,_,_=>none
   | _=>none
 | .nilCheck x=>(opd x).map (.fad 0)
 | .fieldAddr t x f=>match P.underlying t with
   | some (.struct fs)=>match fs[f]?,opd x with
     | some f,some x=>match szT P f.type with
       | some (n+1)=>some (.fad f.offset x)
       | _=>none
     | _,_=>none
   | _=>none
 | .field t x f=>match P.underlying t with
   | some (.struct fs)=>match fs[f]?,opd x with
     | some f,some x=>match XJ P f.type,szT P f.type with
       | some ag,some n=>if ag=true∨n=1 then some (.fld ag f.offset n x) else none
       | _,_=>none
     | _,_=>none
   | _=>none
 | .indexAddr t x i=>match P.underlying t with
   | some (.slice e)=>match szT P e,opd x,opd i with
     | some n,some x,some i=>some (.iad n x i)
     | _,_,_=>none
   | some (.array len e)=>match szT P e,opd x,opd i with
     | some n,some x,some i=>some (.iaa len n x i)
     | _,_,_=>none
   | _=>none
 | .index t x i=>match P.underlying t with
   | some .string=>match opd x,opd i with
     | some x,some i=>some (.idx x i)
     | _,_=>none
   | some (.array len e)=>match XJ P e,szT P e,opd x,opd i with
     | some ag,some n,some x,some i=>if ag=true∨n=1 then some (.ixa ag len n x i) else none
     | _,_,_,_=>none
   | _=>none
 | .lookup t m k ok=>match P.underlying t with
   | some (.map kt e)=>match Abr P kt,KL P e,opd m,opd k with
     | some kk,some z,some m,some k=>some (.lok kk z ok m k)
     | _,_,_,_=>none
   | _=>none
 | .mapUpdate t m k v | .insert t m k v=>match P.underlying t with
   | some (.map kt e)=>match Abr P kt,opd m,opd k,opd v with
     | some kk,some m,some k,some v=>some (.mup kk m k v)
     | _,_,_,_=>none
   | _=>none
 | .mapEntry t m k=>match P.underlying t with
   | some (.map kt e)=>match Abr P kt,KL P e,opd m,opd k with
     | some kk,some z,some m,some k=>some (.men kk z m k)
     | _,_,_,_=>none
   | _=>none
 | .entryStore _ m s v=>match opd m,opd s,opd v with
   | some m,some s,some v=>some (.est m s v)
   | _,_,_=>none
 | .extract x i=>(opd x).map (.ext · i)
 | .call c=>match c.callee,c.args.toList,c.argTypes.toList with
   | .builtin .len,[x],[t]=>match P.underlying t with
     | some (.slice _)=>(opd x).map .lenl
     | some .string=>(opd x).map .lens
     | some (.map ..)=>(opd x).map .lenm
     | _=>none
   | .builtin .append,[x,y],[t,u]=>match P.underlying t,P.underlying u with
     | some (.slice e),some (.slice _)=>match Ahc sm o.dst,P.info? e,KL P e,opd x,opd y with
       | some s,some i,some z,some x,some y=>if z.cells.length=i.size∧0<i.size then some (.app s i.size i.bytes x y) else none
       | _,_,_,_,_=>none
     | _,_=>none
   | .builtin .copy,[x,y],[t,u]=>match P.underlying t,P.underlying u with
     | some (.slice e),some (.slice _)=>match szT P e,opd x,opd y with
       | some 1,some x,some y=>some (.cpy x y)
       | _,_,_=>none
     | _,_=>none
   | .builtin .clear,[x],[t]=>match P.underlying t with
     | some (.slice e)=>match KL P e,opd x with
       | some z,some x=>some (.clr z x)
       | _,_=>none
     | _=>none
   | .builtin .max,[x,y],_=>match opd x,opd y with
     | some x,some y=>some (.mxn true x y)
     | _,_=>none
   | .builtin .min,[x,y],_=>match opd x,opd y with
     | some x,some y=>some (.mxn false x y)
     | _,_=>none
   | _,_,_=>none
 | _=>none
structure TR (w:World)(m:Mem)(h:List Ob)(L:Nat→Nat→Prop)(t:List AV)(a:Array Value):Prop where
 size:a.size=t.length
 rel:∀(i:Nat) (v:AV) (c:Value),t[i]? = some v→a[i]? = some c→VRel w m.fz (RefR w m h L) v c
theorem M3 {w:World}{fz:Nat→Prop}{v:Value}{x:AV}(h:AiJ v=some x):VRel0 w fz x v∧x.one=true∧v.oneCell'=true∧x.plain=true:=by
 unfold AiJ at h;split at h<;>(try cases h)
 ·exact ⟨.bool _,rfl,rfl,rfl⟩
 ·exact ⟨.int _ _,rfl,rfl,rfl⟩
 ·exact ⟨.str _,rfl,rfl,rfl⟩
 ·exact ⟨.nilp,rfl,rfl,rfl⟩
 ·exact ⟨.nils,rfl,rfl,rfl⟩
 ·exact ⟨.nilm,rfl,rfl,rfl⟩
 ·exact ⟨.nilf,rfl,rfl,rfl⟩
 ·rename_i f first caps
  split at h
  ·rename_i hh;cases h;have h1:first = #[]:=by simpa using hh.1
   have h2:caps = #[]:=by simpa using hh.2
   subst h1;subst h2;exact ⟨.fn _ _ _ rfl (fun j c v hj=>by simp at hj),rfl,rfl,rfl⟩
  ·cases h
theorem ofL_rel {f:Value→Option AV}:∀ {vs:List Value}{xs:List AV},ofL f vs=some xs→vs.length=xs.length∧∀(j:Nat) (x:AV) (v:Value),xs[j]? = some x→vs[j]? = some v→f v=some x:=by
 intro vs;induction vs with
 | nil=>intro xs h;simp [ofL] at h;subst h;exact ⟨rfl,fun j x v h=>by simp at h⟩
 | cons v vs ih =>
   intro xs h;simp only [ofL] at h;cases hv:f v with
   | none=>simp [hv] at h
   | some y =>
     simp [hv] at h;cases hvs:ofL f vs with
     | none=>simp [hvs] at h
     | some ys =>
       simp [hvs] at h;subst h;obtain ⟨h1,h2⟩:=ih hvs;refine ⟨by simp [h1],fun j x u hx hu=>?_⟩;cases j with
       | zero=>simp at hx hu;subst hx;subst hu;exact hv
       | succ j=>simp at hx hu;exact h2 j x u hx hu
theorem Tf {w:World}{fz:Nat→Prop}{v:Value}{x:AV}(h:ofV v=some x):VRel0 w fz x v:=by
 unfold ofV at h;split at h
 ·rename_i cs;cases hl:ofL AiJ cs.toList with
  | none=>simp [hl] at h
  | some xs =>
    simp [hl] at h;subst h;obtain ⟨h1,h2⟩:=ofL_rel hl;refine .agg _ _ (by simpa using h1) (fun j c v hc hv=>?_) (fun j c v hc hv=>?_)
    ·have:=M3 (w:=w) (fz:=fz) (h2 j c v hc (by simpa using hv));exact ⟨this.2.1,this.2.2.1⟩
    ·exact (M3 (h2 j c v hc (by simpa using hv))).1
 ·exact (M3 h).1
theorem TR.get {w:World}{m:Mem}{h:List Ob}{L:Nat→Nat→Prop}{σ:St}{a:Act}(ht:TR w m h L σ.t a.tmps){x:Operand}{y:Opd}(hx:opd x=some y) :
 VRel w m.fz (RefR w m h L) (σ.get y) (a.eval x):=by
 cases x with
 | tmp t =>
   simp [opd] at hx;subst hx;simp only [St.get,Act.eval];rcases Nat.lt_or_ge t σ.t.length with hlt|hge
   ·have h1:σ.t[t]? = some σ.t[t]:=List.getElem?_eq_getElem hlt;have hlt':t<a.tmps.size:=by rw [ht.size];exact hlt
    have h2:a.tmps[t]? = some a.tmps[t]:=Array.getElem?_eq_getElem hlt';have:=ht.rel t _ _ h1 h2;simpa [List.getD_eq_getElem?_getD,Array.getD_eq_getD_getElem?,h1,h2] using this
   ·have h1:σ.t[t]? = none:=List.getElem?_eq_none hge;rw [List.getD_eq_getElem?_getD,h1];exact .base _ _ (.undef _)
 | const v =>
   simp only [opd] at hx;cases hv:ofV v with
   | none=>simp [hv] at hx
   | some z=>simp [hv] at hx;subst hx;exact .base _ _ (Tf hv)
 | func f =>
   simp only [opd,Option.some.injEq] at hx;subst hx;exact .base _ _ (.fn _ _ _ rfl (fun j c v hj=>by simp at hj))
 | global g=>simp [opd] at hx
section inv
variable {w:World}{fz:Nat→Prop}{m:Mem}{h:List Ob}{L:Nat→Nat→Prop}{c:Value}
theorem VRel.inv_bool {R:AV→Value→Prop}{b:Bool}(h:VRel w fz R (.bool b) c):c = .bool b:=by
 cases h with
 | base _ _ h=>cases h;rfl
 | ref _ _ hv h=>cases hv
theorem VRel.inv_int {R:AV→Value→Prop}{k:IntKind}{n:Int}(h:VRel w fz R (.int k n) c):c = .int k n:=by
 cases h with
 | base _ _ h=>cases h;rfl
 | ref _ _ hv h=>cases hv
theorem VRel.inv_str {R:AV→Value→Prop}{s:ByteArray}(h:VRel w fz R (.str s) c):c = .string s:=by
 cases h with
 | base _ _ h=>cases h;rfl
 | ref _ _ hv h=>cases hv
theorem VRel.inv_nils {R:AV→Value→Prop}(h:VRel w fz R .nils c):c = .slice none 0 0:=by
 cases h with
 | base _ _ h=>cases h;rfl
 | ref _ _ hv h=>cases hv
theorem VRel.inv_nilm {R:AV→Value→Prop}(h:VRel w fz R .nilm c):c = .map none:=by
 cases h with
 | base _ _ h=>cases h;rfl
 | ref _ _ hv h=>cases hv
theorem VRel.inv_nilf {R:AV→Value→Prop}(h:VRel w fz R .nilf c):c = .nilFunc:=by
 cases h with
 | base _ _ h=>cases h;rfl
 | ref _ _ hv h=>cases hv
theorem VRel.inv_emp {R:AV→Value→Prop}(h:VRel w fz R .emp c):∃A,c = .slice A 0 0:=by
 cases h with
 | base _ _ h=>cases h;exact ⟨_,rfl⟩
 | ref _ _ hv h=>cases hv
theorem VRel.inv_ne {R:AV→Value→Prop}(h:VRel w fz R .ne c):∃A cap,c = .slice (some A) 0 cap:=by
 cases h with
 | base _ _ h=>cases h;exact ⟨_,_,rfl⟩
 | ref _ _ hv h=>cases hv
def LstAt (w:World)(fz:Nat→Prop)(xs:List AV)(c:Value):Prop :=
 ∃(A:Addr) (cap es:Nat) (vs:Nat→Nat→Value),c = .slice (some A) xs.length cap∧xs.length≤cap∧(0<xs.length→fz A.block∧A.spot=none) ∧
    (∀(i:Nat) (e:AV),xs[i]? = some e→e.cells.length=es) ∧
    (∀(i:Nat) (e:AV) (j:Nat) (d:AV),xs[i]? = some e→e.cells[j]? = some d→d.one=true∧(vs i j).oneCell'=true∧w.cell? ⟨A.block,A.off+(i*es+j),none⟩=some (vs i j)) ∧
    (∀(i:Nat) (e:AV) (j:Nat) (d:AV),xs[i]? = some e→e.cells[j]? = some d→VRel0 w fz d (vs i j))
theorem VRel.inv_lst {R:AV→Value→Prop}{xs:List AV}(h:VRel w fz R (.lst xs) c):(xs = []∧c = .slice none 0 0)∨LstAt w fz xs c:=by
 cases h with
 | base _ _ h=>cases h with
   | lst _ A cap es vs h1 h2 h3 h4 h5=>exact .inr ⟨A,cap,es,vs,rfl,h1,h2,h3,h4,h5⟩
   | lstn=>exact .inl ⟨rfl,rfl⟩
 | ref _ _ hv h=>cases hv
theorem VRel.inv_pfro {R:AV→Value→Prop}{cs:List AV}(h:VRel w fz R (.pfro cs) c):∃(A:Addr) (vs:Nat→Value),c = .pointer (some A)∧fz A.block∧A.spot=none ∧
 (∀(j:Nat) (d:AV),cs[j]? = some d→d.one=true∧(vs j).oneCell'=true∧w.cell? ⟨A.block,A.off+j,none⟩=some (vs j))∧(∀(j:Nat) (d:AV),cs[j]? = some d→VRel0 w fz d (vs j)):=by
 cases h with
 | base _ _ h=>cases h with|pfro _ A vs h1 h2 h3 h4=>exact ⟨A,vs,rfl,h1,h2,h3,h4⟩
 | ref _ _ hv h=>cases hv
theorem VRel.inv_fn {R:AV→Value→Prop}{f:FuncId}{cs:List AV}(h:VRel w fz R (.fn f cs) c):∃vs:Array Value,c = .func (.func f) #[] vs∧vs.size=cs.length ∧
 ∀(j:Nat) (d:AV) (v:Value),cs[j]? = some d→vs[j]? = some v→VRel w fz R d v:=by
 cases h with
 | base _ _ h=>cases h with|fn _ _ vs h1 h2=>exact ⟨vs,rfl,h1,fun j d v hd hv=>.base _ _ (h2 j d v hd hv)⟩
 | fn _ _ vs h1 h2=>exact ⟨vs,rfl,h1,h2⟩
 | ref _ _ hv h=>cases hv
theorem VRel.inv_agg {R:AV→Value→Prop}{cs:List AV}(h:VRel w fz R (.agg cs) c):∃vs:Array Value,c = .agg vs∧vs.size=cs.length ∧
 (∀(j:Nat) (d:AV) (v:Value),cs[j]? = some d→vs[j]? = some v→d.one=true∧v.oneCell'=true) ∧
 ∀(j:Nat) (d:AV) (v:Value),cs[j]? = some d→vs[j]? = some v→VRel w fz R d v:=by
 cases h with
 | base _ _ h=>cases h with|agg _ vs h1 h2 h3=>exact ⟨vs,rfl,h1,h2,fun j d v hd hv=>.base _ _ (h3 j d v hd hv)⟩
 | agg _ vs h1 h2 h3=>exact ⟨vs,rfl,h1,h2,h3⟩
 | ref _ _ hv h=>cases hv
theorem VRel.inv_tup {R:AV→Value→Prop}{cs:List AV}(h:VRel w fz R (.tup cs) c):∃vs:Array Value,c = .tuple vs∧vs.size=cs.length ∧
 ∀(j:Nat) (d:AV) (v:Value),cs[j]? = some d→vs[j]? = some v→VRel w fz R d v:=by
 cases h with
 | base _ _ h=>cases h with|tup _ vs h1 h3=>exact ⟨vs,rfl,h1,fun j d v hd hv=>.base _ _ (h3 j d v hd hv)⟩
 | tup _ vs h1 h3=>exact ⟨vs,rfl,h1,h3⟩
 | ref _ _ hv h=>cases hv
theorem VRel.inv_ref {R:AV→Value→Prop}{v:AV}(hv:v.isRef=true)(h:VRel w fz R v c):R v c:=by
 cases h with
 | base _ _ h=>cases h<;>cases hv
 | ref _ _ _ h=>exact h
 | _=>cases hv
end inv
theorem VRel0.lst0 {w:World}{fz:Nat→Prop}(A:Option Addr)(cap:Nat)(h:A=none→cap=0):VRel0 w fz (.lst []) (.slice A 0 cap):=by
 cases A with
 | none=>rw [h rfl];exact .lstn
 | some A=>exact .lst [] A cap 0 (fun _ _=>Go.undef) (by simp) (fun h=>by simp at h) (fun i e h=>by simp at h) (fun i e j c h=>by simp at h) (fun i e j c h=>by simp at h)
theorem LstAt.val {w:World}{fz:Nat→Prop}{xs:List AV}{c:Value}(h:LstAt w fz xs c):VRel0 w fz (.lst xs) c:=by
 obtain ⟨A,cap,es,vs,rfl,h1,h2,h3,h4,h5⟩:=h;exact .lst xs A cap es vs h1 h2 h3 h4 h5
end Go.Mw
namespace Go.Mw
open Go.RowKit
def OpOk (P:Program)(o:Oper)(a:Act)(w0:World)(fz0:Nat→Prop)(m:Mem)(h:List Ob)(w:World)(L:Nat→Nat→Prop)(v:AV)(h':List Ob):Prop :=
 ∃(c:Value) (w':World) (m':Mem),((execOp a.eval o).run P w = .ok (.value c) w'∨((execOp a.eval o).run P w = .ok .skip w'∧c=undef)) ∧
  Rel w0 fz0 m' h' w'∧HStep m m' h h'∧WKeep w w'∧FKeep w w' m.fz∧(∀b,m.fz b→m'.fz b)∧h'.length=h.length∧VRel w' m'.fz (RefR w' m' h' L) v c
section
variable {P:Program}{sm:List Nat}{o:Oper}{a:Act}{w0:World}{fz0:Nat→Prop}{m:Mem}{w:World}{L:Nat→Nat→Prop}{σ:St}{base:Nat}{i:Ins}{v:AV}{h':List Ob}
theorem OpOk.quiet {h:List Ob}(hr:Rel w0 fz0 m h w){c:Value}(hrun:(execOp a.eval o).run P w = .ok (.value c) w)(hv:VRel w m.fz (RefR w m h L) v c):OpOk P o a w0 fz0 m h w L v h :=
 ⟨c,w,m,.inl hrun,hr,HStep.refl m h,WKeep.refl w,FKeep.refl w _,fun _ h=>h,rfl,hv⟩
theorem AgO (ht:TR w m σ.h L σ.t a.tmps)(hr:Rel w0 fz0 m σ.h w){x:Operand}(ho:o.op = .move x∨o.op = .assign x)(hc:(opd x).map Ins.mov=some i)
 (hx:ax base i σ=some (v,h')):OpOk P o a w0 fz0 m σ.h w L v h':=by
 cases hy:opd x with
 | none=>simp [hy] at hc
 | some y =>
   simp [hy] at hc;subst hc;simp only [ax,Option.some.injEq,Prod.mk.injEq] at hx;obtain ⟨rfl,rfl⟩:=hx;refine OpOk.quiet hr (c:=a.eval x) ?_ (ht.get hy);rcases ho with ho|ho<;>simp [execOp,ho]
theorem AhY (ht:TR w m σ.h L σ.t a.tmps)(hr:Rel w0 fz0 m σ.h w){c x y:Operand}(ho:o.op = .pick c x y)(hc:BY P sm o=some i)
 (hx:ax base i σ=some (v,h')):OpOk P o a w0 fz0 m σ.h w L v h':=by
 simp only [BY,ho] at hc;cases h1:opd c with
 | none=>simp [h1] at hc
 | some c'=>cases h2:opd x with
   | none=>simp [h1,h2] at hc
   | some x'=>cases h3:opd y with
     | none=>simp [h1,h2,h3] at hc
     | some y' =>
       simp [h1,h2,h3] at hc;subst hc;have hb:=ht.get (a:=a) h1;simp only [ax] at hx;split at hx
       ·rename_i hg;cases hx;rw [hg] at hb;refine OpOk.quiet hr (c:=a.eval x) ?_ (ht.get h2);simp [execOp,ho,hb.inv_bool,asBool]
       ·rename_i hg;cases hx;rw [hg] at hb;refine OpOk.quiet hr (c:=a.eval y) ?_ (ht.get h3);simp [execOp,ho,hb.inv_bool,asBool]
       ·cases hx
theorem ok_un (ht:TR w m σ.h L σ.t a.tmps)(hr:Rel w0 fz0 m σ.h w){op:UnOp}{t:TypeId}{x:Operand}(ho:o.op = .unOp op t x)(hc:BY P sm o=some i)
 (hx:ax base i σ=some (v,h')):OpOk P o a w0 fz0 m σ.h w L v h':=by
 simp only [BY,ho] at hc;cases h1:opd x with
 | none=>simp [h1] at hc
 | some x' =>
   simp [h1] at hc;subst hc;have hb:=ht.get (a:=a) h1;simp only [ax] at hx;generalize hg:σ.get x'=g at hx hb;cases op<;>cases g<;>simp [unAV] at hx
   ·obtain ⟨rfl,rfl⟩:=hx;refine OpOk.quiet hr (c:=_) ?_ (.base _ _ (.int _ _));simp [execOp,ho,hb.inv_int,Op.unary,Op.intArith]
   ·obtain ⟨rfl,rfl⟩:=hx;refine OpOk.quiet hr (c:=_) ?_ (.base _ _ (.bool _));simp [execOp,ho,hb.inv_bool,Op.unary]
theorem UV (P:Program)(w:World)(op:BinOp)(k yk:IntKind)(x y:Int)(hy:0≤y) :
 (Op.shift .shl k x yk y).run P w = .ok (.int k (k.wrap (x*2 ^ (min y.toNat k.bits)))) w ∧
 (Op.shift .shr k x yk y).run P w = .ok (.int k (x.fdiv (2 ^ (min y.toNat k.bits)))) w:=by
 have h:¬y<0:=by omega
 constructor<;>simp [Op.shift,h]
theorem Ag2 (ht:TR w m σ.h L σ.t a.tmps)(hr:Rel w0 fz0 m σ.h w){op:BinOp}{t yt:TypeId}{x y:Operand}{x' y':Opd}(ho:o.op = .binOp op t x y yt)
 (h1:opd x=some x') (h2:opd y=some y')
 (hx:ax base (.bin op x' y') σ=some (v,h')):OpOk P o a w0 fz0 m σ.h w L v h':=by
 have hb:=ht.get (a:=a) h1;have hd:=ht.get (a:=a) h2;simp only [ax] at hx;generalize hg:σ.get x'=g at hx hb;generalize hg':σ.get y'=g' at hx hd;have heg:∀(u u':Value),(∀(k:IntKind) (n:Int),u = .int k n→True)→((∃k n,u = .int k n)∨∃s,u = .string s)→eqGuard op t x y u u'=pure ():=by
  rintro u u'-(⟨k,n,rfl⟩|⟨s,rfl⟩)
  ·cases op<;>rfl
  ·cases op<;>rfl
 cases g<;>cases g'<;>simp only [binAV,Option.map_none,reduceCtorEq] at hx
 ·-- whole numbers
  rename_i k p k' q;have e1:a.eval x = .int k p:=hb.inv_int;have e2:a.eval y = .int k' q:=hd.inv_int;have hgd:=heg (.int k p) (.int k' q) (fun _ _ _=>trivial) (.inl ⟨_,_,rfl⟩);by_cases hsh:op = .shl∨op = .shr
  ·rcases hsh with rfl|rfl
   ·simp only at hx;split at hx
    ·rename_i hq;cases hx;refine OpOk.quiet hr (c:=_) ?_ (.base _ _ (.int _ _));simp only [execOp,ho,e1,e2,hgd,binOp];simp [(UV P w .shl k k' p q hq).1]
    ·cases hx
   ·simp only at hx;split at hx
    ·rename_i hq;cases hx;refine OpOk.quiet hr (c:=_) ?_ (.base _ _ (.int _ _));simp only [execOp,ho,e1,e2,hgd,binOp];simp [(UV P w .shl k k' p q hq).2]
    ·cases hx
  ·by_cases hk:k=k'
   ·subst hk;cases op<;>first|exact absurd (.inl rfl) hsh|exact absurd (.inr rfl) hsh|skip
    all_goals simp only [if_true,ite_true] at hx
    all_goals first
     | (simp only [Option.map_some,Option.some.injEq,Prod.mk.injEq] at hx
        obtain ⟨rfl,rfl⟩:=hx;refine OpOk.quiet hr (c:=_) ?_ (.base _ _ (by constructor));simp only [execOp,ho,e1,e2,hgd,binOp];simp [Op.intArith,Op.intBits,Op.intCmp];done)
     | (split at hx
        ·cases hx
        ·rename_i hq;simp only [Option.map_some,Option.some.injEq,Prod.mk.injEq] at hx;obtain ⟨rfl,rfl⟩:=hx;refine OpOk.quiet hr (c:=_) ?_ (.base _ _ (by constructor));simp only [execOp,ho,e1,e2,hgd,binOp];simp [Op.intDiv,hq])
   ·exfalso;cases op<;>first|exact absurd (.inl rfl) hsh|exact absurd (.inr rfl) hsh|(simp [hk] at hx)
 ·-- strings
  rename_i p q;have e1:a.eval x = .string p:=hb.inv_str;have e2:a.eval y = .string q:=hd.inv_str;have hgd:=heg (.string p) (.string q) (fun _ _ _=>trivial) (.inr ⟨_,rfl⟩);cases op<;>simp at hx
  case add =>
   obtain ⟨hle,rfl,rfl⟩:=hx;refine OpOk.quiet hr (c:=_) ?_ (.base _ _ (.str _));simp only [execOp,ho,e1,e2,hgd,binOp];have:¬(((p.size+q.size:Nat):Int)>IntKind.i64.max):=by
    have:IntKind.i64.max=9223372036854775807:=by decide
    omega
   simp only [Op.stringOp];rw [if_neg this];simp
  all_goals
   obtain ⟨rfl,rfl⟩:=hx;refine OpOk.quiet hr (c:=_) ?_ (.base _ _ (.bool _));simp only [execOp,ho,e1,e2,hgd,binOp];simp [Op.stringOp]
end
end Go.Mw
namespace Go.Mw
open Go.RowKit
section
variable {P:Program}{sm:List Nat}{o:Oper}{a:Act}{w0:World}{fz0:Nat→Prop}{m:Mem}{w:World}{L:Nat→Nat→Prop}{σ:St}{base:Nat}{i:Ins}{v:AV}{h':List Ob}
theorem K6 {t:TypeId}{b:Bool}(h:XJ P t=some b)(w:World):(isAgg t).run P w = .ok b w:=by
 unfold XJ at h;unfold isAgg;cases hu:P.underlying t with
 | none=>simp [hu] at h
 | some d =>
   simp only [hu] at h;have:=run_underlying hu w;cases d<;>simp at h<;>subst h<;>simp [this]
theorem KS {t:TypeId}{d:TypeInfo}(h:P.info? t=some d)(w:World):(typeInfo t).run P w = .ok d w:=by
 simp [typeInfo,h]
theorem Ba {t:TypeId}{n:Nat}(h:szT P t=some n)(w:World):(sizeOf t).run P w = .ok n w:=by
 unfold szT at h;cases hi:P.info? t with
 | none=>simp [hi] at h
 | some d=>simp [hi] at h;simp [sizeOf,KS hi w,h]
theorem Eb {t:TypeId}{z:AV}(h:KL P t=some z):∃d v,P.info? t=some d∧d.zero=some v∧ofV v=some z:=by
 unfold KL at h;cases hi:P.info? t with
 | none=>simp [hi] at h
 | some d =>
   simp [hi] at h;cases hz:d.zero with
   | none=>simp [hz] at h
   | some v=>simp [hz] at h;exact ⟨d,v,rfl,hz,h⟩
theorem BA {t:TypeId}{d:TypeInfo}{v:Value}(hi:P.info? t=some d)(hz:d.zero=some v)(w:World):(zeroValue t).run P w = .ok v w:=by
 simp [zeroValue,KS hi w,hz]
theorem AiX (ht:TR w m σ.h L σ.t a.tmps)(hr:Rel w0 fz0 m σ.h w){src dst:TypeId}{x:Operand}{x':Opd}{k:IntKind}{d:TypeDesc}(ho:o.op = .convert src dst x)
 (hs:P.underlying src=some d) (hd:P.underlying dst=some (.int k)) (h1:opd x=some x')
 (hx:ax base (.cvi k x') σ=some (v,h')):OpOk P o a w0 fz0 m σ.h w L v h':=by
 have hb:=ht.get (a:=a) h1;simp only [ax] at hx;generalize hg:σ.get x'=g at hx hb;cases g<;>simp at hx;obtain ⟨rfl,rfl⟩:=hx;refine OpOk.quiet hr (c:=_) ?_ (.base _ _ (.int _ _));have e:=hb.inv_int;simp only [execOp,ho,e,convert];simp [run_underlying hs,run_underlying hd,Conv.intToInt]
theorem Ags (ht:TR w m σ.h L σ.t a.tmps):∀ {xs:List Operand}{ys:List Opd},opds xs=some ys→ys.length=xs.length∧∀(j:Nat) (c:AV) (v:Value),(σ.gets ys)[j]? = some c→(xs.map a.eval)[j]? = some v→VRel w m.fz (RefR w m σ.h L) c v:=by
 intro xs;induction xs with
 | nil=>intro ys h;simp [opds] at h;subst h;exact ⟨rfl,fun j c v h=>by simp [St.gets] at h⟩
 | cons x xs ih =>
   intro ys h;simp only [opds] at h;cases hx:opd x with
   | none=>simp [hx] at h
   | some y =>
     simp [hx] at h;cases hxs:opds xs with
     | none=>simp [hxs] at h
     | some ys' =>
       simp [hxs] at h;subst h;obtain ⟨h1,h2⟩:=ih hxs;refine ⟨by simp [h1],fun j c v hc hv=>?_⟩;cases j with
       | zero =>
         simp [St.gets] at hc hv;subst hc;subst hv;exact ht.get hx
       | succ j=>simp only [St.gets,List.map_cons,List.getElem?_cons_succ] at hc hv;exact h2 j c v hc hv
theorem Aje (ht:TR w m σ.h L σ.t a.tmps)(hr:Rel w0 fz0 m σ.h w){f:FuncId}{first caps:Array Operand}{ys:List Opd}(ho:o.op = .makeFunc (.func f) first caps)(hf:first.isEmpty=true)
 (h1:opds caps.toList=some ys) (hx:ax base (.mkf f ys) σ=some (v,h')):OpOk P o a w0 fz0 m σ.h w L v h':=by
 obtain ⟨hl,hall⟩:=Ags ht h1;simp only [ax,Option.some.injEq,Prod.mk.injEq] at hx;obtain ⟨rfl,rfl⟩:=hx;refine OpOk.quiet hr (c:=.func (.func f) #[] (caps.map a.eval)) ?_ (.fn _ _ _ (by simp [St.gets,hl]) (fun j c v hc hv=>hall j c v hc ?_))
 ·have:first = #[]:=by simpa using hf
  subst this;simp [execOp,ho,Instr.makeFunc]
 ·rw [←Array.getElem?_toList] at hv;simpa using hv
theorem Ajb (ht:TR w m σ.h L σ.t a.tmps)(hr:Rel w0 fz0 m σ.h w){x:Operand}{x':Opd}{k:Nat}(ho:o.op = .extract x k)
 (h1:opd x=some x') (hx:ax base (.ext x' k) σ=some (v,h')):OpOk P o a w0 fz0 m σ.h w L v h':=by
 have hb:=ht.get (a:=a) h1;simp only [ax] at hx;generalize hg:σ.get x'=g at hx hb;cases g<;>simp at hx;rename_i vs;cases hk:vs[k]? with
 | none=>simp [hk] at hx
 | some u =>
   simp [hk] at hx;obtain ⟨rfl,rfl⟩:=hx;obtain ⟨cs,e,hl,hall⟩:=hb.inv_tup;have hlt:k<cs.size:=by rw [hl];exact List.lt_of_some hk
   refine OpOk.quiet hr (c:=cs[k]) ?_ (hall k u _ hk (Array.getElem?_eq_getElem hlt));simp [execOp,ho,e,Instr.extract,Array.getElem?_eq_getElem hlt]
theorem AgW (ht:TR w m σ.h L σ.t a.tmps)(hr:Rel w0 fz0 m σ.h w){mx:Bool}{b:Builtin}{x y:Operand}{x' y':Opd}{args:Array Operand}{ts:Array TypeId}
 (ho:o.op = .call { callee:=.builtin b,args:=args,argTypes:=ts }) (hb:b=if mx then .max else .min) (has:args.toList = [x,y])
 (h1:opd x=some x') (h2:opd y=some y') (hx:ax base (.mxn mx x' y') σ=some (v,h')):OpOk P o a w0 fz0 m σ.h w L v h':=by
 have hb1:=ht.get (a:=a) h1;have hb2:=ht.get (a:=a) h2;have hs:args = #[x,y]:=by apply Array.toList_inj.1;simpa using has
 subst hs;simp only [ax] at hx;generalize hg:σ.get x'=g at hx hb1;generalize hg':σ.get y'=g' at hx hb2;cases g<;>cases g'<;>simp at hx;rename_i k p k' q;obtain ⟨hk,rfl,rfl⟩:=hx;have e1:=hb1.inv_int;have e2:=hb2.inv_int;refine OpOk.quiet hr (c:=_) ?_ (.base _ _ (.int _ _));cases mx<;>simp at hb<;>subst hb
 ·simp [execOp,ho,resolve,e1,e2,invoke,builtin,Builtin.min_,Builtin.min2]
 ·simp [execOp,ho,resolve,e1,e2,invoke,builtin,Builtin.max_,Builtin.max2]
theorem BZ {x:Value}{n:Int}{k:IntKind}(e:x = .int k n){y:Nat}(h:0≤n∧n≤(y:Int))(cd:BoundsCode):(Instr.sliceBound x y cd).run P w = .ok n.toNat w:=by
 subst e;simp [Instr.sliceBound,asIntOf,h]
theorem bound_some {x:Option AV}{d y n:Nat}(h:bound x d y=some n):(x=none∧n=d)∨∃k q,x=some (.int k q)∧0≤q∧q≤(y:Int)∧n=q.toNat:=by
 unfold bound at h;split at h
 ·cases h;exact .inl ⟨rfl,rfl⟩
 ·rename_i k q;split at h
  ·rename_i hc;cases h;exact .inr ⟨k,q,rfl,hc.1,hc.2,rfl⟩
  ·cases h
 ·cases h
theorem opdo_get (ht:TR w m σ.h L σ.t a.tmps){x:Option Operand}{x':Option Opd}(h:Rn x=some x') :
 (x=none∧x'=none)∨∃y y',x=some y∧x'=some y'∧VRel w m.fz (RefR w m σ.h L) (σ.get y') (a.eval y):=by
 cases x with
 | none=>simp [Rn] at h;exact .inl ⟨rfl,h.symm⟩
 | some y =>
   simp only [Rn] at h;cases hy:opd y with
   | none=>simp [hy] at h
   | some y'=>simp [hy] at h;exact .inr ⟨y,y',rfl,h.symm,ht.get hy⟩
theorem LA (ht:TR w m σ.h L σ.t a.tmps){lo hi:Option Operand}{lo' hi':Option Opd}(hlo:Rn lo=some lo')(hhi:Rn hi=some hi')(isS:Bool){len cap nh nl:Nat}(hcap:len≤cap)
 (h1:bound (hi'.map σ.get) len len=some nh) (h2:bound (lo'.map σ.get) 0 nh=some nl) :
 (Instr.sliceBounds isS len cap (lo.map a.eval) (hi.map a.eval) none).run P w = .ok (nl,nh,cap) w∧nl≤nh∧nh≤len:=by
 have hH:∃s:Sem Nat,True:=⟨pure 0,trivial⟩;have e1:nh≤len:=by
  rcases bound_some h1 with ⟨_,rfl⟩|⟨k,q,_,h3,h4,rfl⟩<;>omega
 have e2:nl≤nh:=by
  rcases bound_some h2 with ⟨_,rfl⟩|⟨k,q,_,h3,h4,rfl⟩<;>omega
 refine ⟨?_,e2,e1⟩;unfold Instr.sliceBounds;rcases opdo_get ht hhi with ⟨rfl,rfl⟩|⟨y,y',rfl,rfl,hy⟩
 ·rcases bound_some h1 with ⟨_,rfl⟩|⟨k,q,h3,_⟩
  ·rcases opdo_get ht hlo with ⟨rfl,rfl⟩|⟨x,x',rfl,rfl,hx⟩
   ·rcases bound_some h2 with ⟨_,rfl⟩|⟨k,q,h3,_⟩
    ·simp
    ·cases h3
   ·rcases bound_some h2 with ⟨h3,_⟩|⟨k,q,h3,h4,h5,rfl⟩
    ·cases h3
    ·simp only [Option.map_some,Option.some.injEq] at h3;rw [h3] at hx;simp [BZ hx.inv_int ⟨h4,h5⟩]
  ·cases h3
 ·rcases bound_some h1 with ⟨h3,_⟩|⟨k,q,h3,h4,h5,rfl⟩
  ·cases h3
  ·simp only [Option.map_some,Option.some.injEq] at h3;rw [h3] at hy;have h5':q≤(cap:Int):=by omega
   rcases opdo_get ht hlo with ⟨rfl,rfl⟩|⟨x,x',rfl,rfl,hx⟩
   ·rcases bound_some h2 with ⟨_,rfl⟩|⟨k,q,h3,_⟩
    ·cases isS<;>simp [BZ hy.inv_int ⟨h4,h5'⟩]
    ·cases h3
   ·rcases bound_some h2 with ⟨h3,_⟩|⟨k,q',h3,h6,h7,rfl⟩
    ·cases h3
    ·simp only [Option.map_some,Option.some.injEq] at h3;rw [h3] at hx;cases isS<;>simp [BZ hy.inv_int ⟨h4,h5'⟩,BZ hx.inv_int ⟨h6,h7⟩]
theorem AjR (ht:TR w m σ.h L σ.t a.tmps)(hr:Rel w0 fz0 m σ.h w){t:TypeId}{x:Operand}{lo hi:Option Operand}{x':Opd}{lo' hi':Option Opd}(ho:o.op = .slice t x lo hi none)
 (hu:P.underlying t=some .string) (h1:opd x=some x') (hlo:Rn lo=some lo') (hhi:Rn hi=some hi')
 (hx:ax base (.ssl x' lo' hi') σ=some (v,h')):OpOk P o a w0 fz0 m σ.h w L v h':=by
 have hb:=ht.get (a:=a) h1;simp only [ax] at hx;generalize hg:σ.get x'=g at hx hb;cases g<;>simp at hx;rename_i s;cases e1:bound (hi'.map σ.get) s.size s.size with
 | none=>simp [e1] at hx
 | some nh =>
   simp [e1] at hx;cases e2:bound (lo'.map σ.get) 0 nh with
   | none=>simp [e2] at hx
   | some nl =>
     simp [e2] at hx;obtain ⟨rfl,rfl⟩:=hx;have hbd:=LA (P:=P) ht hlo hhi false (Nat.le_refl _) e1 e2;refine OpOk.quiet hr (c:=.string (s.extract nl nh)) ?_ (.base _ _ (.str _));simp only [execOp,ho,Instr.sliceAt,Instr.slice,hb.inv_str];simp [run_underlying hu,hbd.1]
theorem AjY (ht:TR w m σ.h L σ.t a.tmps)(hr:Rel w0 fz0 m σ.h w){t:TypeId}{x y:Operand}{x' y':Opd}(ho:o.op = .index t x y)
 (hu:P.underlying t=some .string) (h1:opd x=some x') (h2:opd y=some y')
 (hx:ax base (.idx x' y') σ=some (v,h')):OpOk P o a w0 fz0 m σ.h w L v h':=by
 have hb:=ht.get (a:=a) h1;have hd:=ht.get (a:=a) h2;simp only [ax] at hx;generalize hg:σ.get x'=g at hx hb;generalize hg':σ.get y'=g' at hx hd;cases g<;>cases g'<;>simp at hx;rename_i s k n;obtain ⟨h0,hx⟩:=hx;cases hs:s[n.toNat]? with
 | none=>simp [hs] at hx
 | some b =>
   simp [hs] at hx;obtain ⟨rfl,rfl⟩:=hx;refine OpOk.quiet hr (c:=.int .u8 b.toNat) ?_ (.base _ _ (.int _ _));simp only [execOp,ho,Instr.index,hb.inv_str,hd.inv_int,asIntOf];simp [run_underlying hu,h0,hs]
theorem YD {t:TypeId}{ag:Bool}{n off:Nat}{cs:List AV}{vs:Array Value}{u:AV}{R:AV→Value→Prop}{fz:Nat→Prop}(hag:XJ P t=some ag)(hn:szT P t=some n)
 (hl:vs.size=cs.length) (h1:∀(j:Nat) (d:AV) (v:Value),cs[j]? = some d→vs[j]? = some v→d.one=true∧v.oneCell'=true) (hr:∀(j:Nat) (d:AV) (v:Value),cs[j]? = some d→vs[j]? = some v→VRel w fz R d v)
 (hle:off+n≤cs.length)
 (hx:(if ag=true then some (AV.agg ((cs.drop off).take n)) else cs[off]?)=some u) :
 ∃c,(part t vs off).run P w = .ok c w∧VRel w fz R u c:=by
 unfold part;cases ag with
 | true =>
   simp only [if_true,Option.some.injEq] at hx;subst hx;refine ⟨.agg (vs.extract off (off+n)),by simp [K6 hag,Ba hn],?_⟩;have key:∀(j:Nat) (d:AV) (v:Value),((cs.drop off).take n)[j]? = some d→(vs.extract off (off+n))[j]? = some v→cs[off+j]? = some d∧vs[off+j]? = some v:=by
    intro j d v hd hv;rw [List.getElem?_take] at hd;split at hd
    ·rw [List.getElem?_drop] at hd;rw [Array.getElem?_extract] at hv;split at hv
     ·exact ⟨hd,hv⟩
     ·cases hv
    ·cases hd
   refine .agg _ _ (by simp [hl];omega) (fun j d v hd hv=>?_) (fun j d v hd hv=>?_)
   ·obtain ⟨g1,g2⟩:=key j d v hd hv;exact h1 _ _ _ g1 g2
   ·obtain ⟨g1,g2⟩:=key j d v hd hv;exact hr _ _ _ g1 g2
 | false =>
   simp only [Bool.false_eq_true,if_false] at hx;have hlt:off<vs.size:=by rw [hl];exact List.lt_of_some hx
   exact ⟨vs[off],by simp [K6 hag,Array.getElem?_eq_getElem hlt],hr off u _ hx (Array.getElem?_eq_getElem hlt)⟩
theorem ok_fld (ht:TR w m σ.h L σ.t a.tmps)(hr:Rel w0 fz0 m σ.h w){t:TypeId}{x:Operand}{x':Opd}{k n:Nat}{ag:Bool}{fs:Array Field}{f:Field}(ho:o.op = .field t x k)
 (hu:P.underlying t=some (.struct fs)) (hf:fs[k]? = some f) (h1:opd x=some x') (hag:XJ P f.type=some ag) (hn:szT P f.type=some n)
 (hx:ax base (.fld ag f.offset n x') σ=some (v,h')):OpOk P o a w0 fz0 m σ.h w L v h':=by
 have hb:=ht.get (a:=a) h1;simp only [ax] at hx;generalize hg:σ.get x'=g at hx hb;cases g<;>simp only [reduceCtorEq] at hx;rename_i cs;split at hx
 ·rename_i hle;obtain ⟨vs,e,hl,hone,hall⟩:=hb.inv_agg;have:∃u,(if ag=true then some (AV.agg ((cs.drop f.offset).take n)) else cs[f.offset]?)=some u∧v=u∧h'=σ.h:=by
   split at hx
   ·rename_i hag';cases hx;exact ⟨_,by simp [hag'],rfl,rfl⟩
   ·rename_i hag';cases hc:cs[f.offset]? with
    | none=>simp [hc] at hx
    | some u=>simp [hc] at hx;exact ⟨u,by simp [hag'],hx.1.symm,hx.2.symm⟩
  obtain ⟨u,hu',rfl,rfl⟩:=this;obtain ⟨c,hrun,hrel⟩:=YD hag hn hl hone hall hle hu';refine OpOk.quiet hr (c:=c) ?_ hrel;simp only [execOp,ho,Instr.field,e];simp [run_underlying hu,hf,asAgg,hrun]
 ·cases hx
theorem ok_ixa (ht:TR w m σ.h L σ.t a.tmps)(hr:Rel w0 fz0 m σ.h w){t e:TypeId}{x y:Operand}{x' y':Opd}{len n:Nat}{ag:Bool}(ho:o.op = .index t x y)
 (hu:P.underlying t=some (.array len e)) (h1:opd x=some x') (h2:opd y=some y') (hag:XJ P e=some ag) (hn:szT P e=some n)
 (hx:ax base (.ixa ag len n x' y') σ=some (v,h')):OpOk P o a w0 fz0 m σ.h w L v h':=by
 have hb:=ht.get (a:=a) h1;have hd:=ht.get (a:=a) h2;simp only [ax] at hx;generalize hg:σ.get x'=g at hx hb;generalize hg':σ.get y'=g' at hx hd;cases g<;>cases g'<;>simp only [reduceCtorEq] at hx;rename_i cs k q;split at hx
 ·rename_i hle;obtain ⟨vs,ev,hl,hone,hall⟩:=hb.inv_agg;have:∃u,(if ag=true then some (AV.agg ((cs.drop (q.toNat*n)).take n)) else cs[q.toNat*n]?)=some u∧v=u∧h'=σ.h:=by
   split at hx
   ·rename_i hag';cases hx;exact ⟨_,by simp [hag'],rfl,rfl⟩
   ·rename_i hag';cases hc:cs[q.toNat*n]? with
    | none=>simp [hc] at hx
    | some u=>simp [hc] at hx;exact ⟨u,by simp [hag'],hx.1.symm,hx.2.symm⟩
  obtain ⟨u,hu',rfl,rfl⟩:=this;obtain ⟨c,hrun,hrel⟩:=YD hag hn hl hone hall hle.2.2 hu';refine OpOk.quiet hr (c:=c) ?_ hrel;have hlt:0≤q∧q<(len:Int):=⟨hle.1,hle.2.1⟩;simp only [execOp,ho,Instr.index,ev,hd.inv_int,asIntOf];simp [run_underlying hu,hlt,Ba hn,hrun]
 ·cases hx
end
end Go.Mw
namespace Go.Mw
open Go.RowKit
section
variable {P:Program}{sm:List Nat}{o:Oper}{a:Act}{w0:World}{fz0:Nat→Prop}{m:Mem}{w:World}{L:Nat→Nat→Prop}{σ:St}{base:Nat}{i:Ins}{v:AV}{h':List Ob}
theorem Rel.nodeF {h:List Ob}(hr:Rel w0 fz0 m h w){r st:Nat}{p:Path}{ss:Nat}{nd:AV}(hn:node h r st p ss=some nd):NodeF w m r p nd:=hr.nodes _ _ _ (CK hn)
theorem OR (d:Nat)(t:TypeId)(p q:Bool)(h:P.underlying t=some .bool):(Op.equalIn (d+1) t (.bool p) (.bool q)).run P w = .ok (p==q) w:=by
 simp [Op.equalIn,run_underlying h]
theorem LZ (t:TypeId)(p q:Bool)(h:P.underlying t=some .bool):(Op.equal t (.bool p) (.bool q)).run P w = .ok (p==q) w:=OR 9999 t p q h
theorem ok_beq (ht:TR w m σ.h L σ.t a.tmps)(hr:Rel w0 fz0 m σ.h w){neg:Bool}{t yt:TypeId}{x y:Operand}{x' y':Opd}(ho:o.op = .binOp (if neg then .neq else .eql) t x y yt)
 (hu:P.underlying t=some .bool) (h1:opd x=some x') (h2:opd y=some y')
 (hx:ax base (.beq neg x' y') σ=some (v,h')):OpOk P o a w0 fz0 m σ.h w L v h':=by
 have hb:=ht.get (a:=a) h1;have hd:=ht.get (a:=a) h2;simp only [ax] at hx;generalize hg:σ.get x'=g at hx hb;generalize hg':σ.get y'=g' at hx hd;cases g<;>cases g'<;>simp at hx;rename_i p q;obtain ⟨rfl,rfl⟩:=hx;have e1:=hb.inv_bool;have e2:=hd.inv_bool;refine OpOk.quiet hr (c:=_) ?_ (.base _ _ (.bool _));cases neg
 ·have hgd:eqGuard .eql t x y (.bool p) (.bool q)=pure ():=rfl;simp only [execOp,ho,e1,e2,Bool.false_eq_true,if_false,hgd,binOp];simp [LZ t p q hu]
 ·have hgd:eqGuard .neq t x y (.bool p) (.bool q)=pure ():=rfl;simp only [execOp,ho,e1,e2,if_true,hgd,binOp];simp [LZ t p q hu]
theorem ok_nilc (ht:TR w m σ.h L σ.t a.tmps)(hr:Rel w0 fz0 m σ.h w){neg:Bool}{t yt e:TypeId}{x y:Operand}{x' y':Opd}(ho:o.op = .binOp (if neg then .neq else .eql) t x y yt)
 (hu:P.underlying t=some (.slice e)) (h1:opd x=some x') (h2:opd y=some y')
 (hx:ax base (.nilc neg x' y') σ=some (v,h')):OpOk P o a w0 fz0 m σ.h w L v h':=by
 have hb:=ht.get (a:=a) h1;have hd:=ht.get (a:=a) h2;simp only [ax] at hx;generalize hg':σ.get y'=g' at hx hd;cases g'<;>simp only [reduceCtorEq] at hx;have e2:=hd.inv_nils;cases hn:nilAV σ.h (σ.get x') with
 | none=>simp [hn] at hx
 | some b =>
   simp [hn] at hx;obtain ⟨rfl,rfl⟩:=hx;have key:∃A l c,a.eval x = .slice A l c∧A.isNone=b:=by
    generalize hg:σ.get x'=g at hn hb;cases g<;>simp [nilAV] at hn
    ·subst hn;exact ⟨none,0,0,hb.inv_nils,rfl⟩
    ·rename_i xs;cases xs with
     | nil=>simp at hn
     | cons x xs =>
       simp at hn;subst hn;rcases hb.inv_lst with ⟨h0,_⟩|⟨A,cap,es,vs,e,_⟩
       ·cases h0
       ·exact ⟨some A,_,cap,e,rfl⟩
    ·rename_i r st p ss off len;split at hn
     ·rename_i es xs hnd;simp only [Option.some.injEq] at hn;subst hn;obtain ⟨o',_,_,_,h3⟩:=hb.inv_ref rfl;obtain ⟨_,A,cap,e,_⟩:=h3 _ _ hnd;exact ⟨some A,_,cap,e,rfl⟩
     ·cases hn
    ·subst hn;obtain ⟨A,cap,e⟩:=hb.inv_ne;exact ⟨some A,_,cap,e,rfl⟩
   obtain ⟨A,l,c,e1,hb'⟩:=key;refine OpOk.quiet hr (c:=_) ?_ (.base _ _ (.bool _));cases neg
   ·have hgd:eqGuard .eql t x y (.slice A l c) (.slice none 0 0)=pure ():=rfl;simp only [execOp,ho,e1,e2,Bool.false_eq_true,if_false,hgd,binOp];simp [run_equal_slice_nil w t e A l c hu,hb']
   ·have hgd:eqGuard .neq t x y (.slice A l c) (.slice none 0 0)=pure ():=rfl;simp only [execOp,ho,e1,e2,if_true,hgd,binOp];simp [run_equal_slice_nil w t e A l c hu,hb']
theorem Addr.add_none (b off k:Nat):(⟨b,off,none⟩:Addr).add k=⟨b,off+k,none⟩:=by unfold Addr.add;split<;>simp_all
theorem Addr.add_spot {A:Addr}(h:A.spot=none)(k:Nat):A.add k=⟨A.block,A.off+k,none⟩:=by cases A;simp at h;subst h;exact Addr.add_none _ _ _
theorem RX {t:TypeId}{ag:Bool}{n:Nat}{A:Addr}(hag:XJ P t=some ag)(hn:szT P t=some n)(h1:ag=true∨n=1)(vs:List Value)(hl:vs.length=n)
 (hc:∀(j:Nat) (u:Value),vs[j]? = some u→w.cell? (A.add j)=some u) :
 (Instr.loadAt t (.pointer (some A))).run P w = .ok (if ag then .agg vs.toArray else vs.headD undef) w:=by
 simp only [Instr.loadAt,Instr.sureAddr,loadVar];cases ag with
 | true =>
   have:=run_loadCells_list (P:=P) w A vs hc;rw [hl] at this;simp [K6 hag,Ba hn,this]
 | false =>
   have h2:n=1:=by simpa using h1
   subst h2
   match vs,hl with
   | [u],_ =>
     have:=hc 0 u rfl;rw [Addr.add_zero'] at this;simp [K6 hag,run_load,this]
def QOk (P:Program)(o:Oper)(a:Act)(m:Mem)(h:List Ob)(w:World)(L:Nat→Nat→Prop)(v:AV)(h':List Ob):Prop :=
 h'=h∧∃c,(execOp a.eval o).run P w = .ok (.value c) w∧VRel w m.fz (RefR w m h L) v c
theorem QOk.quiet {h:List Ob}{c:Value}(hrun:(execOp a.eval o).run P w = .ok (.value c) w)(hv:VRel w m.fz (RefR w m h L) v c):QOk P o a m h w L v h:=⟨rfl,c,hrun,hv⟩
theorem Akj (ht:TR w m σ.h L σ.t a.tmps)(hr:Rel w0 fz0 m σ.h w){t:TypeId}{x:Operand}{x':Opd}{n:Nat}{ag:Bool}(ho:o.op = .load t x)
 (hag:XJ P t=some ag) (hn:szT P t=some n) (hn1:ag=true∨n=1) (h1:opd x=some x')
 (hx:ax base (.ld ag n x') σ=some (v,h')):QOk P o a m σ.h w L v h':=by
 have hb:=ht.get (a:=a) h1;simp only [ax] at hx;generalize hg:σ.get x'=g at hx hb;cases g<;>simp only [reduceCtorEq] at hx
 ·-- frozen
  rename_i cs;split at hx
  ·rename_i hle;obtain ⟨A,vs,e,hfz,hsp,hc,hrel⟩:=hb.inv_pfro;have hcell:∀(j:Nat) (u:Value),((List.range n).map vs)[j]? = some u→w.cell? (A.add j)=some u:=by
    intro j u hj;rw [List.getElem?_map] at hj;rcases Nat.lt_or_ge j n with hlt|hge
    ·rw [List.getElem?_range hlt] at hj;simp at hj;subst hj;have hjc:j<cs.length:=by omega
     rw [Addr.add_spot hsp];exact (hc j _ (List.getElem?_eq_getElem hjc)).2.2
    ·rw [List.getElem?_eq_none (by simpa using hge)] at hj;simp at hj
   have hrun:=RX (P:=P) hag hn hn1 ((List.range n).map vs) (by simp) hcell;cases ag with
   | true =>
     simp only [if_true,Option.some.injEq,Prod.mk.injEq] at hx;obtain ⟨rfl,rfl⟩:=hx;refine QOk.quiet (c:=.agg ((List.range n).map vs).toArray) ?_ (.base _ _ (.agg _ _ (by simp;omega) (fun j d u hd hu=>?_) (fun j d u hd hu=>?_)))
     ·simp only [execOp,ho,e];simp [hrun]
     all_goals
      rw [List.getElem?_take] at hd;split at hd
      ·rename_i hjn;simp [hjn] at hu;subst hu
       first|exact ⟨(hc j d hd).1,(hc j d hd).2.1⟩|exact hrel j d hd
      ·cases hd
   | false =>
     have h2:n=1:=by simpa using hn1
     subst h2;cases cs with
     | nil=>simp at hle
     | cons c cs =>
       simp only [Bool.false_eq_true,if_false,Option.some.injEq,Prod.mk.injEq] at hx;obtain ⟨rfl,rfl⟩:=hx;refine QOk.quiet (c:=vs 0) ?_ (.base _ _ (hrel 0 _ rfl));simp only [execOp,ho,e];simp [hrun]
  ·cases hx
 ·-- owned
  rename_i r st p ss k j;cases hnd:node σ.h r st p ss with
  | none=>simp [hnd] at hx
  | some nd =>
    obtain ⟨ob,ho1,hst,hss,hnav⟩:=Bf.1 hnd;simp only [hnd,ho1] at hx;cases nd<;>simp only [reduceCtorEq] at hx;rename_i es xs;cases hk:xs[k]? with
    | none=>simp [hk] at hx
    | some e =>
      simp only [hk] at hx;split at hx
      ·rename_i hle;obtain ⟨o',_,_,_,h3⟩:=hb.inv_ref rfl;have ep:=h3 _ _ hnd;obtain ⟨hpos,arr,ty,hheap,hcells⟩:=hr.nodeF hnd;obtain ⟨hes,hcs⟩:=hcells k e hk;let off:=(m.blk r p).2+(k*es+j);let vs:=(arr.toList.drop off).take n;have hval:∀q,q<n→∃d u,e.cells[j+q]? = some d∧arr[off+q]? = some u∧d.one=true∧u.oneCell'=true∧CellR w m r (p++[(k,j+q)]) d u:=by
        intro q hq;have hlt:j+q<e.cells.length:=by omega
        obtain ⟨g1,u,g2,g3,g4⟩:=hcs (j+q) _ (List.getElem?_eq_getElem hlt);exact ⟨_,u,List.getElem?_eq_getElem hlt,by rw [←g2];congr 1;simp only [off];omega,g1,g3,g4⟩
       have hvs:∀q u,vs[q]? = some u→q<n∧arr[off+q]? = some u:=by
        intro q u hq;simp only [vs] at hq;rw [List.getElem?_take] at hq;split at hq
        ·rw [List.getElem?_drop] at hq;exact ⟨by assumption,by rw [←Array.getElem?_toList];exact hq⟩
        ·cases hq
       have hvl:vs.length=n:=by
        have:∀q,q<n→off+q<arr.size:=fun q hq=>by
         obtain ⟨_,u,_,g,_⟩:=hval q hq;exact (Array.getElem?_eq_some_iff.1 g).1
        simp only [vs,List.length_take,List.length_drop,Array.length_toList];rcases Nat.eq_zero_or_pos n with h0|h0
        ·omega
        ·have:=this (n-1) (by omega);omega
       have hcell:∀(q:Nat) (u:Value),vs[q]? = some u→w.cell? ((⟨(m.blk r p).1,(m.blk r p).2+(k*es+j),none⟩:Addr).add q)=some u:=by
        intro q u hq;obtain ⟨h4,h5⟩:=hvs q u hq;rw [Addr.add_none];simp only [World.cell?,hheap];simpa [off] using h5
       have hrun:=RX (P:=P) hag hn hn1 vs hvl hcell;have hout:∀(l:List AV) (q:Nat) (cs':List AV),(∀x d,l[x]? = some d→e.cells[j+(q+x)]? = some d)→q+l.length≤n→outL r st p ob.ss k (j+q) l=some cs'→cs'.length=l.length ∧
        ∀x d u,cs'[x]? = some d→arr[off+(q+x)]? = some u→d.one=true∧u.oneCell'=true∧VRel w m.fz (RefR w m σ.h L) d u:=by
        intro l;induction l with
        | nil=>intro q cs' _ _ hh;simp [outL] at hh;subst hh;exact ⟨rfl,fun x d u h=>by simp at h⟩
        | cons c l ih =>
          intro q cs' hmem hq hh;simp only [outL] at hh;cases h5:outv r st (p++[(k,j+q)]) ob.ss c with
          | none=>simp [h5] at hh
          | some d0 =>
            simp only [h5] at hh;cases h6:outL r st p ob.ss k (j+q+1) l with
            | none=>simp [h6] at hh
            | some ds =>
              simp only [h6,Option.some.injEq] at hh;subst hh;have hih:=ih (q+1) ds (fun x d hd=>by have:=hmem (x+1) d (by simpa using hd);rw [←this];congr 1;omega) (by simp at hq;omega) (by rw [←h6];congr 1);refine ⟨by simp [hih.1],fun x d u hd hu=>?_⟩;cases x with
              | succ x =>
                simp at hd;exact hih.2 x d u hd (by rw [←hu];congr 1;omega)
              | zero =>
                simp at hd;subst hd;have hcc:=hmem 0 c rfl;simp only [Nat.add_zero] at hcc hu;obtain ⟨d1,u1,g1,g2,g3,g4,g5⟩:=hval q (by simp at hq;omega);rw [hcc] at g1;cases g1;rw [hu] at g2;cases g2;have hpn:nav ob.c (p++[(k,j+q)])=some c:=Nu _ _ _ _ _ hnav ((AF ..).2 ⟨es,xs,e,c,rfl,hk,hcc,nav_nil _⟩);cases c<;>simp [outv] at h5<;>subst h5
                case own es2 ys =>
                 refine ⟨rfl,g4,.ref _ _ rfl ⟨ob,ho1,by omega,fun _ _=>Nat.le_refl _,fun es3 zs h7=>?_⟩⟩;obtain ⟨ob2,k1,k2,k3,k4⟩:=Bf.1 h7;rw [ho1] at k1;cases k1;rw [hpn] at k4;cases k4;exact ⟨by simp,g5⟩
                case ownm es2 =>
                 refine ⟨rfl,g4,.ref _ _ rfl ⟨ob,ho1,by omega,fun _ _=>Nat.le_refl _,fun es3 h7=>?_⟩⟩;obtain ⟨ob2,k1,k2,k3,k4⟩:=Bf.1 h7;rw [ho1] at k1;cases k1;rw [hpn] at k4;cases k4;exact g5
                all_goals exact ⟨g3,g4,.base _ _ g5⟩
       cases hol:outL r st p ob.ss k j ((e.cells.drop j).take n) with
       | none=>simp [hol] at hx
       | some cs' =>
         simp only [hol] at hx;obtain ⟨hl1,hl2⟩:=hout ((e.cells.drop j).take n) 0 cs' (fun x d hd=>by
          rw [List.getElem?_take] at hd;split at hd
          ·rw [List.getElem?_drop] at hd;simpa using hd
          ·cases hd) (by simp;omega) (by simpa using hol)
         have hlen:cs'.length=n:=by rw [hl1];simp;omega
         cases ag with
         | true =>
           simp only [if_true,Option.some.injEq,Prod.mk.injEq] at hx;obtain ⟨rfl,rfl⟩:=hx;refine QOk.quiet (c:=.agg vs.toArray) ?_ (.agg _ _ (by simp [hvl,hlen]) (fun q d u hd hu=>?_) (fun q d u hd hu=>?_))
           ·simp only [execOp,ho,ep];simp [hrun]
           ·have:=hl2 q d u hd (by simpa using (hvs q u (by simpa using hu)).2);exact ⟨this.1,this.2.1⟩
           ·exact (hl2 q d u hd (by simpa using (hvs q u (by simpa using hu)).2)).2.2
         | false =>
           have h2:n=1:=by simpa using hn1
           subst h2
           match cs',hlen,hx with
           | [d],_,hx =>
             simp only [Bool.false_eq_true,if_false,Option.some.injEq,Prod.mk.injEq] at hx;obtain ⟨rfl,rfl⟩:=hx;have h8:vs[0]? = some (vs.headD undef):=by
              cases hvv:vs with
              | nil=>rw [hvv] at hvl;simp at hvl
              | cons u us=>rfl
             have h9:=(hvs 0 _ h8).2;refine QOk.quiet (c:=vs.headD undef) ?_ (hl2 0 d _ rfl (by simpa using h9)).2.2;simp only [execOp,ho,ep];simp [hrun]
      ·cases hx
theorem ok_ld (ht:TR w m σ.h L σ.t a.tmps)(hr:Rel w0 fz0 m σ.h w){t:TypeId}{x:Operand}{x':Opd}{n:Nat}{ag:Bool}(ho:o.op = .load t x)
 (hag:XJ P t=some ag) (hn:szT P t=some n) (hn1:ag=true∨n=1) (h1:opd x=some x')
 (hx:ax base (.ld ag n x') σ=some (v,h')):OpOk P o a w0 fz0 m σ.h w L v h':=by
 obtain ⟨rfl,c,h2,h3⟩:=Akj ht hr ho hag hn hn1 h1 hx;exact OpOk.quiet hr h2 h3
end
end Go.Mw
