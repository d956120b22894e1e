/- The abstract machine: values, objects, instructions, code, evaluation. No theorem about the model here. -/
import GoSem.Dispatch
import Derived.Below
set_option linter.unusedVariables false
set_option linter.unusedSimpArgs false
namespace Go.Mw
abbrev Path:=List (Nat×Nat)
inductive AV where
 | undef|gone
 | bool (b:Bool)|int (k:IntKind) (n:Int)|str (s:ByteArray)
 | nilp|nils|nilm|nilf|emp
 | lst (xs:List AV)|pfro (cs:List AV)
 | sl (r st:Nat) (p:Path) (ss off len:Nat)
 | ptr (r st:Nat) (p:Path) (ss i j:Nat)
 | mp (r st:Nat) (p:Path) (ss:Nat)
 | ent (r st:Nat) (p:Path) (ss i:Nat)
 | fn (f:FuncId) (cs:List AV)|yld (l:Nat)
 | agg (cs:List AV)|tup (vs:List AV)
 | own (es:Nat) (xs:List AV)|ownm (es:List (AV×AV))|ne
 deriving Inhabited
def AV.cells:AV→List AV
 | .agg cs=>cs
 | v=>[v]
structure Ob where
 st:Nat
 ss:Nat
 c:AV
 deriving Inhabited
def nav:AV→Path→Option AV
 | x,[]=>some x
 | .own _ xs,(i,j)::p=>match xs[i]? with
   | some e=>match e.cells[j]? with
     | some c=>nav c p
     | none=>none
   | none=>none
 | _,_::_=>none
def setCellOf (e:AV)(j:Nat)(c:AV):AV :=
 match e with
 | .agg cs=>.agg (cs.set j c)
 | _=>c
def upd:AV→Path→AV→Option AV
 | _,[],v=>some v
 | .own es xs,(i,j)::p,v=>match xs[i]? with
   | some e=>match e.cells[j]? with
     | some c=>match upd c p v with
       | some c'=>some (.own es (xs.set i (setCellOf e j c')))
       | none=>none
     | none=>none
   | none=>none
 | _,_::_,_=>none
def node (h:List Ob)(r st:Nat)(p:Path)(ss:Nat):Option AV :=
 match h[r]? with
 | some o=>if o.st=st∧(p = []∨o.ss=ss) then nav o.c p else none
 | none=>none
def isNode:AV→Bool
 | .own .. | .ownm _=>true
 | _=>false
def nodeAt (h:List Ob)(r:Nat)(p:Path):Option AV :=
 match h[r]? with
 | some o=>nav o.c p
 | none=>none
def outv (r st:Nat)(p:Path)(ss:Nat)(c:AV):Option AV :=
 match c with
 | .gone=>none
 | .own _ xs=>some (.sl r st p ss 0 xs.length)
 | .ownm _=>some (.mp r st p ss)
 | v=>some v
def outL (r st:Nat)(p:Path)(ss i:Nat):Nat→List AV→Option (List AV)
 | _,[]=>some []
 | k,c::cs=>match outv r st (p++[(i,k)]) ss c with
   | some v=>match outL r st p ss i (k+1) cs with
     | some vs=>some (v::vs)
     | none=>none
   | none=>none
mutual
def frz:AV→AV
 | .own _ xs=>.lst (AiV xs)
 | .agg cs=>.agg (AiV cs)
 | .gone=>.undef
 | .ownm _=>.undef
 | .sl .. => .undef
 | .ptr .. => .undef
 | .mp .. => .undef
 | .ent .. => .undef
 | .fn f cs=>.fn f (AiV cs)
 | .yld _=>.undef
 | .lst xs=>.lst xs
 | .pfro cs=>.pfro cs
 | .nils=>.lst []
 | .emp=>.lst []
 | .ne=>.lst []
 | v=>v
def AiV:List AV→List AV
 | []=>[]
 | x::xs=>frz x::AiV xs
end
mutual
def AaI (h:List Ob):AV→AV
 | .sl r st p ss off len=>match node h r st p ss with
   | some (.own _ xs)=>if off+len≤xs.length then .lst (((xs.drop off).take len).map frz) else .undef
   | _=>.undef
 | .ptr r st p ss i j=>match node h r st p ss with
   | some (.own _ xs)=>match xs[i]? with
     | some e=>.pfro ((e.cells.drop j).map frz)
     | none=>.undef
   | _=>.undef
 | .mp .. => .undef
 | .ent .. => .undef
 | .yld _=>.undef
 | .gone=>.undef
 | .own _ _=>.undef
 | .ownm _=>.undef
 | .agg cs=>.agg (Af0 h cs)
 | .tup cs=>.tup (Af0 h cs)
 | .fn f cs=>.fn f (Af0 h cs)
 | .nils=>.lst []
 | .emp=>.lst []
 | .ne=>.lst []
 | v=>v
def Af0 (h:List Ob):List AV→List AV
 | []=>[]
 | x::xs=>AaI h x::Af0 h xs
end
def AV.flat:AV→Bool
 | .undef | .bool _ | .int .. | .str _ | .nilp | .nils | .nilm | .nilf | .emp | .ne=>true
 | .lst []=>true
 | _=>false
def AV.flats:AV→Bool
 | .agg cs=>cs.all AV.flat
 | .tup vs=>vs.all fun v=>match v with
   | .agg cs=>cs.all AV.flat
   | v=>v.flat
 | v=>v.flat
def AV.free1:AV→Bool
 | .sl .. | .ptr .. | .mp .. | .ent .. | .yld _ | .own .. | .ownm _ | .gone=>false
 | .agg _ | .tup _ | .fn .. => false
 | _=>true
def AV.plain:AV→Bool
 | .undef | .bool _ | .int .. | .str _ | .nilp | .nils | .nilm | .nilf | .emp | .ne | .lst _ | .pfro _=>true
 | .fn _ ds=>ds.all AV.free1
 | _=>false
def AV.free2:AV→Bool
 | .agg cs=>cs.all fun c=>match c with
   | .fn _ ds=>ds.all AV.free1
   | c=>c.free1
 | .fn _ ds=>ds.all AV.free1
 | c=>c.free1
def AV.free:AV→Bool
 | .tup vs=>vs.all AV.free2
 | v=>v.free2
inductive Opd where
 | t (n:Nat)
 | c (v:AV)
 deriving Inhabited
abbrev KK:=Bool×List Nat
inductive Ins where
 | mov (x:Opd)
 | pick (c a b:Opd)
 | alc (s es:Nat) (z:AV)
 | box (s es:Nat) (x:Opd)
 | bld (z:List AV) (ps:List (Nat×Nat×Opd))
 | bsl (s es n:Nat) (xs:List Opd)
 | ld (ag:Bool) (n:Nat) (a:Opd)
 | sto (n:Nat) (a x:Opd)
 | bin (op:BinOp) (x y:Opd)
 | beq (neg:Bool) (x y:Opd)
 | nilc (neg:Bool) (x y:Opd)
 | eqa (neg:Bool) (ks:List Nat) (x y:Opd)
 | un (op:UnOp) (x:Opd)
 | cvi (k:IntKind) (x:Opd)
 | mkf (f:FuncId) (cs:List Opd)
 | mkm (s:Nat)
 | mks (s es bytes:Nat) (z:AV) (l c:Opd)
 | sli (es:Nat) (x:Opd) (lo hi mx:Option Opd)
 | ssl (x:Opd) (lo hi:Option Opd)
 | fad (off:Nat) (x:Opd)
 | fld (ag:Bool) (off n:Nat) (x:Opd)
 | iad (es:Nat) (x i:Opd)
 | iaa (len es:Nat) (x i:Opd)
 | idx (x i:Opd)
 | ixa (ag:Bool) (len es:Nat) (x i:Opd)
 | lok (kk:KK) (z:AV) (ok:Bool) (m k:Opd)
 | mup (kk:KK) (m k v:Opd)
 | men (kk:KK) (z:AV) (m k:Opd)
 | est (m s v:Opd)
 | ext (x:Opd) (i:Nat)
 | lens (x:Opd)
 | lenl (x:Opd)
 | lenm (x:Opd)
 | app (s es bytes:Nat) (x y:Opd)
 | mxn (mx:Bool) (x y:Opd)
 | call (f:FuncId) (az:List Opd) (ss:List Nat)
 | calv (f:Opd) (az:List Opd) (ss:List Nat)
 | bxf (x:Opd)
 | cpy (x y:Opd)
 | clr (z:AV) (x:Opd)
 | bad
 deriving Inhabited
structure Rop where
 d:Option Nat
 i:Ins
 g:Option (Nat×Bool)
 deriving Inhabited
inductive C where
 | skip
 | reg (ops:List Rop)
 | drw (ops:List Rop) (prs:List (Nat×Nat))
 | drs (ops:List Rop) (prs:List (Nat×Nat))
 | seq (a b:C)
 | cond (x:Opd) (a b:C)
 | blk (id:Nat) (c:C)
 | loop (kt ks:List Nat) (c:C)
 | rngf (f:Opd) (ps:List Nat) (kt ks:List Nat) (asg body:C)
 | exit (id:Nat)
 | ret
 | frzt (t:Nat) (c:C)
 | mvt (t s:Nat) (c:C)
 deriving Inhabited
inductive Ex where
 | nrm
 | ext (id:Nat)
 | ret
 deriving DecidableEq,Inhabited
structure Lp where
 base:Nat
 t:List AV
 ps:List Nat
 kt:List Nat
 ks:List Nat
 asg:C
 body:C
 pend:Option Ex
 busy:Bool
 deriving Inhabited
structure St where
 t:List AV
 h:List Ob
 lp:List Lp
 deriving Inhabited
structure IF where
 np:Nat
 nt:Nat
 ns:Nat
 body:C
 res:List (Nat×Option (Bool×Nat))
 pure:Bool
 fo:Bool
 split:Bool:=false
 deriving Inhabited
abbrev Prg:=FuncId→Option IF
def St.get (σ:St):Opd→AV
 | .t n=>σ.t.getD n .undef
 | .c v=>v
def St.put (σ:St)(d:Option Nat)(v:AV):St :=
 match d with
 | some d=>{ σ with t:=σ.t.set d v }
 | none=>σ
def setOb (h:List Ob)(r:Nat)(p:Path)(v:AV)(bump:Bool):Option (List Ob) :=
 match h[r]? with
 | some o=>match upd o.c p v with
   | some c=>some (h.set r { o with c,ss:=if bump then o.ss+1 else o.ss })
   | none=>none
 | none=>none
def takeCell (h:List Ob)(v:AV):Option (AV×List Ob) :=
 match v with
 | .sl r st p ss off len=>match node h r st p ss with
   | some (.own es xs)=>if off=0∧len≤xs.length then
      match setOb h r p .gone false with
      | some h'=>some (.own es (xs.take len),h')
      | none=>none
     else none
   | _=>none
 | .mp r st p ss=>match node h r st p ss with
   | some (.ownm es)=>match setOb h r p .gone false with
     | some h'=>some (.ownm es,h')
     | none=>none
   | _=>none
 | v=>if v.plain then some (v,h) else none
def takeCells (h:List Ob):List AV→Option (List AV×List Ob)
 | []=>some ([],h)
 | v::vs=>match takeCell h v with
   | some (c,h1)=>match takeCells h1 vs with
     | some (cs,h2)=>some (c::cs,h2)
     | none=>none
   | none=>none
def R2 (v:AV)(cs:List AV):AV :=
 match v with
 | .agg _=>.agg cs
 | _=>cs.headD .undef
def LP (h:List Ob)(v:AV):Bool :=
 match v with
 | .undef=>false
 | .sl r st p ss _ _=>match node h r st p ss with
   | some (.own ..)=>true
   | _=>false
 | .ptr r st p ss _ _=>match node h r st p ss with
   | some (.own ..)=>true
   | _=>false
 | .mp r st p ss=>match node h r st p ss with
   | some (.ownm _)=>true
   | _=>false
 | v=>v.plain
def vcells (h:List Ob)(n:Nat)(v:AV):Option (List AV) :=
 match v with
 | .agg cs=>if cs.length=n then some cs else none
 | v=>if n=1∧LP h v=true then some [v] else none
def takeVal (h:List Ob)(n:Nat)(v:AV):Option (AV×List Ob) :=
 match vcells h n v with
 | some vs=>match takeCells h vs with
   | some (cs,h')=>some (R2 v cs,h')
   | none=>none
 | none=>none
def takeVals (h:List Ob)(n:Nat):List AV→Option (List AV×List Ob)
 | []=>some ([],h)
 | v::vs=>match takeVal h n v with
   | some (c,h1)=>match takeVals h1 n vs with
     | some (cs,h2)=>some (c::cs,h2)
     | none=>none
   | none=>none
def newOb (h:List Ob)(r:Nat)(c:AV):Option (List Ob×Nat) :=
 match h[r]? with
 | some o=>match o.c with
   | .gone=>some (h.set r { st:=o.st+1,ss:=0,c },o.st+1)
   | _=>none
 | none=>none
def setCells (e:AV)(j:Nat):List AV→AV
 | []=>e
 | c::cs=>setCells (setCellOf e j c) (j+1) cs
def binAV (op:BinOp)(x y:AV):Option AV :=
 match x,y with
 | .int k a,.int k' b =>
   match op with
   | .shl=>if 0≤b then some (.int k (k.wrap (a*2 ^ (min b.toNat k.bits)))) else none
   | .shr=>if 0≤b then some (.int k (a.fdiv (2 ^ (min b.toNat k.bits)))) else none
   | op=>if k=k' then
      match op with
      | .add=>some (.int k (k.wrap (a+b)))
      | .sub=>some (.int k (k.wrap (a-b)))
      | .mul=>some (.int k (k.wrap (a*b)))
      | .quo=>if b=0 then none else some (.int k (k.wrap (a.tdiv b)))
      | .rem=>if b=0 then none else some (.int k (a.tmod b))
      | .and=>some (.int k (k.wrap (BitVec.ofInt k.bits a&&&BitVec.ofInt k.bits b).toNat))
      | .or=>some (.int k (k.wrap (BitVec.ofInt k.bits a|||BitVec.ofInt k.bits b).toNat))
      | .xor=>some (.int k (k.wrap (BitVec.ofInt k.bits a ^^^ BitVec.ofInt k.bits b).toNat))
      | .andNot=>some (.int k (k.wrap (BitVec.ofInt k.bits a &&& ~~~(BitVec.ofInt k.bits b)).toNat))
      | .eql=>some (.bool (a==b))
      | .neq=>some (.bool (a != b))
      | .lss=>some (.bool (decide (a<b)))
      | .leq=>some (.bool (decide (a≤b)))
      | .gtr=>some (.bool (decide (a>b)))
      | .geq=>some (.bool (decide (a≥b)))
      | _=>none
     else none
 | .str a,.str b =>
   match op with
   | .eql=>some (.bool (a.toList==b.toList))
   | .neq=>some (.bool (!(a.toList==b.toList)))
   | .lss=>some (.bool (Op.bytesLess a.toList b.toList))
   | .add=>if a.size+b.size≤1099511627776 then some (.str (a++b)) else none
   | _=>none
 | _,_=>none
def nilAV (h:List Ob):AV→Option Bool
 | .nils=>some true
 | .lst (_::_)=>some false
 | .ne=>some false
 | .sl r st p ss off len=>match node h r st p ss with
   | some (.own ..)=>some false
   | _=>none
 | _=>none
def CP:Nat→AV→AV→Option Bool
 | 0,.bool a,.bool b=>some (a==b)
 | 1,.int k a,.int k' b=>if k=k' then some (a==b) else none
 | 2,.str a,.str b=>some (a==b)
 | _,_,_=>none
def eqCells:List Nat→List AV→List AV→Option Bool
 | [],[],[]=>some true
 | k::ks,x::xs,y::ys=>match CP k x y with
   | some true=>eqCells ks xs ys
   | some false=>match eqCells ks xs ys with
     | some _=>some false
     | none=>none
   | none=>none
 | _,_,_=>none
def unAV (op:UnOp)(x:AV):Option AV :=
 match op,x with
 | .not,.bool b=>some (.bool !b)
 | .neg,.int k n=>some (.int k (k.wrap (0-n)))
 | _,_=>none
def bound (x:Option AV)(dflt most:Nat):Option Nat :=
 match x with
 | none=>some dflt
 | some (.int _ i)=>if 0≤i∧i≤(most:Int) then some i.toNat else none
 | some _=>none
def C1 (kk:KK)(a b:AV):Option Bool :=
 match kk,a,b with
 | (true,ks),.agg xs,.agg ys=>eqCells ks xs ys
 | (false,[k]),x,y=>CP k x y
 | _,_,_=>none
def findKey (kk:KK)(k:AV):List (AV×AV)→Nat→Option (Option Nat)
 | [],_=>some none
 | (k',_)::es,i=>match C1 kk k k' with
   | some true=>some (some i)
   | some false=>findKey kk k es (i+1)
   | none=>none
def AV.c64:AV→Bool
 | .int κ _=>κ==.i64
 | _=>true
def AV.k64:AV→Bool
 | .agg xs=>xs.all AV.c64
 | x=>x.c64
def findK (kk:KK)(k:AV)(es:List (AV×AV)):Option (Option Nat):=if (C1 kk k k).isSome=true∧k.k64=true then findKey kk k es 0 else none
def St.gets (σ:St)(xs:List Opd):List AV:=xs.map σ.get
def bldAV (σ:St):List AV→List (Nat×Nat×Opd)→Option (List AV)
 | cs,[]=>some cs
 | cs,(off,n,x)::ps=>match vcells σ.h n (σ.get x) with
   | some vs=>if off+n≤cs.length then bldAV σ (cs.take off++vs++cs.drop (off+n)) ps else none
   | none=>none
def appY (h:List Ob)(es:Nat)(y:AV):Option (List AV×List Ob) :=
 match y with
 | .nils | .emp | .ne=>some ([],h)
 | .lst ys=>if (ys.head?.all fun e:AV=>e.cells.length==es)=true then some (ys,h) else none
 | .sl r st p ss off len=>match node h r st p ss with
   | some (.own es' ys) =>
     if es'=es∧off+len≤ys.length∧((ys.drop off).take len).all (fun e:AV=>e.cells.all AV.plain)=true then some ((ys.drop off).take len,h)
     else if es'=es∧off=0∧len=ys.length then (setOb h r p .gone false).map (ys,·)
     else none
   | _=>none
 | _=>none
def appX (h:List Ob)(es:Nat)(x:AV):Option (List AV×List Ob) :=
 match x with
 | .nils | .emp=>some ([],h)
 | .lst []=>some ([],h)
 | .sl r st p ss off len=>match node h r st p ss with
   | some (.own es' xs)=>if es'=es∧off+len≤xs.length then (setOb h r p .gone false).map ((xs.drop off).take len,·) else none
   | _=>none
 | _=>none
def AV.isLst:AV→Bool
 | .lst _=>true
 | _=>false
def Ah1 (h:List Ob)(y:AV):Option (List AV) :=
 match y with
 | .nils | .emp | .ne=>some []
 | .lst ys=>if ys.all AV.plain=true then some ys else none
 | .sl r st p ss off len=>match node h r st p ss with
   | some (.own es ys)=>if es=1∧off+len≤ys.length∧ys.all AV.plain=true then some ((ys.drop off).take len) else none
   | _=>none
 | _=>none
def ax (base:Nat)(i:Ins)(σ:St):Option (AV×List Ob) :=
 match i with
 | .mov x=>some (σ.get x,σ.h)
 | .pick c a b=>match σ.get c with
   | .bool true=>some (σ.get a,σ.h)
   | .bool false=>some (σ.get b,σ.h)
   | _=>none
 | .alc s es z=>if z.cells.length=es∧0<es∧z.cells.all AV.plain then match newOb σ.h (base+s) (.own es [z]) with
   | some (h,st)=>some (.ptr (base+s) st [] 0 0 0,h)
   | none=>none
   else none
 | .box s es x=>if 0<es then match takeVal σ.h es (σ.get x) with
    | some (v,h1)=>match newOb h1 (base+s) (.own es [v]) with
      | some (h,st)=>some (.ptr (base+s) st [] 0 0 0,h)
      | none=>none
    | none=>none
   else none
 | .bxf x=>match σ.get x with
   | .lst xs=>some (.pfro [.lst xs],σ.h)
   | _=>none
 | .bld z ps=>match bldAV σ z ps with
    | some cs=>some (.agg cs,σ.h)
    | none=>none
 | .bsl s es n xs=>if xs.length=n∧0<es then
    if n=0 then some (.emp,σ.h) else
    match takeVals σ.h es (σ.gets xs) with
    | some (vs,h1)=>match newOb h1 (base+s) (.own es vs) with
      | some (h,st)=>some (.sl (base+s) st [] 0 0 n,h)
      | none=>none
    | none=>none
   else none
 | .ld ag n a=>match σ.get a with
   | .pfro cs=>if n≤cs.length then
      if ag then some (.agg (cs.take n),σ.h) else match cs with
       | c::_=>some (c,σ.h)
       | []=>none
     else none
   | .ptr r st p ss i j=>match node σ.h r st p ss,σ.h[r]? with
     | some (.own _ xs),some o=>match xs[i]? with
       | some e=>if j+n≤e.cells.length then
          match outL r st p o.ss i j ((e.cells.drop j).take n) with
          | some cs=>if ag then some (.agg cs,σ.h) else match cs with
            | [c]=>some (c,σ.h)
            | _=>none
          | none=>none
         else none
       | none=>none
     | _,_=>none
   | _=>none
 | .sto n a x=>match σ.get a with
   | .ptr r st p ss i j=>match node σ.h r st p ss,vcells σ.h n (σ.get x) with
     | some (.own es0 _),some vs=>match takeCells σ.h vs with
       | some (cs,h1)=>match nodeAt h1 r p with
         | some (.own es xs)=>match xs[i]? with
           | some e=>if es0=es∧j+n≤e.cells.length then
              (setOb h1 r p (.own es (xs.set i (setCells e j cs))) (cs.any isNode||((e.cells.drop j).take n).any isNode)).map (.undef,·)
             else none
           | none=>none
         | _=>none
       | none=>none
     | _,_=>none
   | _=>none
 | .bin op x y=>(binAV op (σ.get x) (σ.get y)).map (·,σ.h)
 | .beq neg x y=>match σ.get x,σ.get y with
   | .bool a,.bool b=>some (.bool ((a==b) != neg),σ.h)
   | _,_=>none
 | .nilc neg x y=>match σ.get y with
   | .nils=>(nilAV σ.h (σ.get x)).map fun b=>(.bool (b != neg),σ.h)
   | _=>none
 | .eqa neg ks x y=>match σ.get x,σ.get y with
   | .agg xs,.agg ys=>(eqCells ks xs ys).map fun b=>(.bool (b != neg),σ.h)
   | _,_=>none
 | .un op x=>(unAV op (σ.get x)).map (·,σ.h)
 | .cvi k x=>match σ.get x with
   | .int _ n=>some (.int k (k.wrap n),σ.h)
   | _=>none
 | .mkf f cs=>some (.fn f (σ.gets cs),σ.h)
 | .mkm s=>match newOb σ.h (base+s) (.ownm []) with
   | some (h,st)=>some (.mp (base+s) st [] 0,h)
   | none=>none
 | .mks s es bytes z l c=>match σ.get l,σ.get c with
   | .int .i64 l,.int .i64 c=>if l=c∧0≤l∧l≤4294967296∧bytes≤4096∧0<es then
      match newOb σ.h (base+s) (.own es (List.replicate l.toNat z)) with
      | some (h,st)=>some (.sl (base+s) st [] 0 0 l.toNat,h)
      | none=>none
     else none
   | _,_=>none
 | .ssl x lo hi=>match σ.get x with
   | .str s=>match bound (hi.map σ.get) s.size s.size with
     | some h=>match bound (lo.map σ.get) 0 h with
       | some l=>some (.str (s.extract l h),σ.h)
       | none=>none
     | none=>none
   | _=>none
 | .sli es x lo hi mx=>match σ.get x with
   | .lst xs=>match mx with
     | none=>match bound (hi.map σ.get) xs.length xs.length with
       | some h=>match bound (lo.map σ.get) 0 h with
         | some l=>if (xs.head?.all fun e:AV=>e.cells.length==es)=true then some (.lst ((xs.take h).drop l),σ.h) else none
         | none=>none
       | none=>none
     | some m=>match σ.get m,bound (hi.map σ.get) 1 0,bound (lo.map σ.get) 0 0 with
       | .int _ 0,some 0,some _=>some (.emp,σ.h)
       | _,_,_=>none
   | .nils=>match mx.map σ.get,bound (hi.map σ.get) 0 0,bound (lo.map σ.get) 0 0 with
     | none,some _,some _=>some (.nils,σ.h)
     | some (.int _ 0),some _,some _=>if hi.isSome then some (.nils,σ.h) else none
     | _,_,_=>none
   | .emp=>match mx.map σ.get,bound (hi.map σ.get) 0 0,bound (lo.map σ.get) 0 0 with
     | none,some _,some _=>some (.emp,σ.h)
     | some (.int _ 0),some _,some _=>if hi.isSome then some (.emp,σ.h) else none
     | _,_,_=>none
   | .sl r st p ss off len=>match node σ.h r st p ss with
     | some (.own es' _)=>if es'=es then match mx with
       | none=>match bound (hi.map σ.get) len len with
         | some h=>match bound (lo.map σ.get) 0 h with
           | some l=>some (.sl r st p ss (off+l) (h-l),σ.h)
           | none=>none
         | none=>none
       | some m=>match σ.get m,bound (hi.map σ.get) 1 0,bound (lo.map σ.get) 0 0 with
         | .int _ 0,some 0,some _=>some (.emp,σ.h)
         | _,_,_=>none
       else none
     | _=>none
   | _=>none
 | .fad off x=>match σ.get x with
   | .pfro cs=>if off≤cs.length then some (.pfro (cs.drop off),σ.h) else none
   | .ptr r st p ss i j=>match node σ.h r st p ss with
     | some (.own ..)=>some (.ptr r st p ss i (j+off),σ.h)
     | _=>none
   | _=>none
 | .fld ag off n x=>match σ.get x with
   | .agg cs=>if off+n≤cs.length then
      if ag then some (.agg ((cs.drop off).take n),σ.h) else match cs[off]? with
       | some c=>some (c,σ.h)
       | none=>none
     else none
   | _=>none
 | .iad es x i=>match σ.get x,σ.get i with
   | .lst xs,.int _ i=>if 0≤i then match xs[i.toNat]? with
      | some e=>if e.cells.length=es then some (.pfro e.cells,σ.h) else none
      | none=>none
     else none
   | .sl r st p ss off len,.int _ i=>if 0≤i∧i<(len:Int) then match node σ.h r st p ss with
      | some (.own es' _)=>if es'=es then some (.ptr r st p ss (off+i.toNat) 0,σ.h) else none
      | _=>none
     else none
   | _,_=>none
 | .iaa len es x i=>match σ.get x,σ.get i with
   | .pfro cs,.int _ i=>if 0≤i∧i<(len:Int)∧i.toNat*es≤cs.length then some (.pfro (cs.drop (i.toNat*es)),σ.h) else none
   | .ptr r st p ss k j,.int _ i=>if 0≤i∧i<(len:Int) then match node σ.h r st p ss with
      | some (.own ..)=>some (.ptr r st p ss k (j+i.toNat*es),σ.h)
      | _=>none
     else none
   | _,_=>none
 | .idx x i=>match σ.get x,σ.get i with
   | .str s,.int _ i=>if 0≤i then match s[i.toNat]? with
      | some b=>some (.int .u8 b.toNat,σ.h)
      | none=>none
     else none
   | _,_=>none
 | .ixa ag len es x i=>match σ.get x,σ.get i with
   | .agg cs,.int _ i=>if 0≤i∧i<(len:Int)∧i.toNat*es+es≤cs.length then
      if ag then some (.agg ((cs.drop (i.toNat*es)).take es),σ.h) else match cs[i.toNat*es]? with
       | some c=>some (c,σ.h)
       | none=>none
     else none
   | _,_=>none
 | .lok kk z ok m k =>
   let es:=match σ.get m with
    | .nilm=>some []
    | .mp r st p ss=>match node σ.h r st p ss with
      | some (.ownm es)=>some es
      | _=>none
    | _=>none
   match es with
   | some es=>match findK kk (σ.get k) es with
     | some (some i)=>match es[i]? with
       | some (_,v)=>some (if ok then .tup [v,.bool true] else v,σ.h)
       | none=>none
     | some none=>some (if ok then .tup [z,.bool false] else z,σ.h)
     | none=>none
   | none=>none
 | .mup kk m k v=>match σ.get m with
   | .mp r st p ss=>match node σ.h r st p ss with
     | some (.ownm es)=>if (σ.get v).free=true∧(σ.get k).free=true then match findK kk (σ.get k) es with
        | some (some i)=>match es[i]? with
          | some (k',_)=>(setOb σ.h r p (.ownm (es.set i (k',σ.get v))) false).map (.undef,·)
          | none=>none
        | some none=>(setOb σ.h r p (.ownm (es++[(σ.get k,σ.get v)])) false).map (.undef,·)
        | none=>none
       else none
     | _=>none
   | _=>none
 | .men kk z m k=>match σ.get m with
   | .mp r st p ss=>match node σ.h r st p ss with
     | some (.ownm es)=>if (σ.get k).free=true∧z.free=true then match findK kk (σ.get k) es with
        | some (some i)=>match es[i]? with
          | some (_,v)=>some (.tup [v,.ent r st p ss i],σ.h)
          | none=>none
        | some none=>(setOb σ.h r p (.ownm (es++[(σ.get k,z)])) false).map (.tup [z,.ent r st p ss es.length],·)
        | none=>none
       else none
     | _=>none
   | _=>none
 | .est m s v=>match σ.get m,σ.get s with
   | .mp r st p ss,.ent r' st' p' ss' i=>if r'=r∧st'=st∧p'=p∧ss'=ss∧(σ.get v).free=true then match node σ.h r st p ss with
      | some (.ownm es)=>match es[i]? with
        | some (k,_)=>(setOb σ.h r p (.ownm (es.set i (k,σ.get v))) false).map (.undef,·)
        | none=>none
      | _=>none
     else none
   | _,_=>none
 | .ext x i=>match σ.get x with
   | .tup vs=>match vs[i]? with
     | some v=>some (v,σ.h)
     | none=>none
   | _=>none
 | .lens x=>match σ.get x with
   | .str s=>some (.int .i64 s.size,σ.h)
   | _=>none
 | .lenl x=>match σ.get x with
   | .nils | .emp | .ne=>some (.int .i64 0,σ.h)
   | .lst xs=>some (.int .i64 xs.length,σ.h)
   | .sl r st p ss off len=>match node σ.h r st p ss with
     | some (.own ..)=>some (.int .i64 len,σ.h)
     | _=>none
   | _=>none
 | .lenm x=>match σ.get x with
   | .nilm=>some (.int .i64 0,σ.h)
   | .mp r st p ss=>match node σ.h r st p ss with
     | some (.ownm es)=>some (.int .i64 es.length,σ.h)
     | _=>none
   | _=>none
 | .app s es bytes x y=>match appY σ.h es (σ.get y) with
   | some (ys,h1)=>match appX h1 es (σ.get x) with
     | some (xs,h2) =>
       if xs.isEmpty=true∧ys.isEmpty=true then
        match σ.get x with
        | .nils=>some (.nils,h2)
        | .emp=>some (.emp,h2)
        | .lst _=>some (.lst [],h2)
        | _=>none
       else if xs.length+ys.length≤4294967296*(32768 / bytes)∧0<bytes∧bytes≤4096∧0<es∧(σ.get x).isLst=false then
        match newOb h2 (base+s) (.own es (xs++ys)) with
        | some (h,st)=>some (.sl (base+s) st [] 0 0 (xs.length+ys.length),h)
        | none=>none
       else none
     | none=>none
   | none=>none
 | .mxn mx x y=>match σ.get x,σ.get y with
   | .int k a,.int k' b=>if k=k' then some (.int k (if mx then (if b>a then b else a) else (if b<a then b else a)),σ.h) else none
   | _,_=>none
 | .clr z x=>match σ.get x with
   | .nils=>some (.tup [],σ.h)
   | .emp=>some (.tup [],σ.h)
   | .sl r st p ss off len=>match node σ.h r st p ss with
     | some (.own es xs)=>if es=1∧off+len≤xs.length∧xs.all AV.plain=true∧z.plain=true then
        (setOb σ.h r p (.own 1 (xs.take off++List.replicate len z++xs.drop (off+len))) false).map (.tup [],·)
       else none
     | _=>none
   | _=>none
 | .cpy x y=>match σ.get x with
   | .sl r st p ss off len=>match node σ.h r st p ss,Ah1 σ.h (σ.get y) with
     | some (.own es xs),some ys=>if es=1∧off+len≤xs.length∧xs.all AV.plain=true then
        (setOb σ.h r p (.own 1 (xs.take off++ys.take len++xs.drop (off+min ys.length len))) false).map (.int .i64 (min ys.length len:Nat),·)
       else none
     | _,_=>none
   | _=>none
 | .bad=>none
 | .call .. | .calv .. => none
open Go.RowKit
theorem nav_nil (x:AV):nav x []=some x:=by unfold nav;cases x<;>rfl
theorem F7 (x v:AV):upd x [] v=some v:=by unfold upd;cases x<;>rfl
theorem AF (x:AV)(i j:Nat)(p:Path)(y:AV):nav x ((i,j)::p)=some y ↔
 ∃es xs e c,x = .own es xs∧xs[i]? = some e∧e.cells[j]? = some c∧nav c p=some y:=by
 constructor
 ·intro h;cases x<;>simp [nav] at h;rename_i es xs;cases he:xs[i]? with
  | none=>simp [he] at h
  | some e =>
    simp [he] at h;cases hc:e.cells[j]? with
    | none=>simp [hc] at h
    | some c=>simp [hc] at h;exact ⟨es,xs,e,c,rfl,he,hc,h⟩
 ·rintro ⟨es,xs,e,c,rfl,he,hc,h⟩;simp [nav,he,hc,h]
theorem FO (x:AV)(i j:Nat)(p:Path)(v y:AV):upd x ((i,j)::p) v=some y ↔
 ∃es xs e c c',x = .own es xs∧xs[i]? = some e∧e.cells[j]? = some c∧upd c p v=some c'∧y = .own es (xs.set i (setCellOf e j c')):=by
 constructor
 ·intro h;cases x<;>simp [upd] at h;rename_i es xs;cases he:xs[i]? with
  | none=>simp [he] at h
  | some e =>
    simp [he] at h;cases hc:e.cells[j]? with
    | none=>simp [hc] at h
    | some c =>
      simp [hc] at h;cases hu:upd c p v with
      | none=>simp [hu] at h
      | some c'=>simp [hu] at h;exact ⟨es,xs,e,c,c',rfl,he,hc,hu,h.symm⟩
 ·rintro ⟨es,xs,e,c,c',rfl,he,hc,hu,rfl⟩;simp [upd,he,hc,hu]
theorem Nu (p q:Path):∀(x y z:AV),nav x p=some y→nav y q=some z→nav x (p++q)=some z:=by
 induction p with
 | nil=>intro x y z h1 h2;rw [nav_nil] at h1;cases h1;exact h2
 | cons a p ih =>
   obtain ⟨i,j⟩:=a;intro x y z h1 h2;obtain ⟨es,xs,e,c,rfl,he,hc,h⟩:=(AF ..).1 h1;exact (AF ..).2 ⟨es,xs,e,c,rfl,he,hc,ih _ _ _ h h2⟩
theorem Vm (p q:Path):∀(x z:AV),nav x (p++q)=some z→∃y,nav x p=some y∧nav y q=some z:=by
 induction p with
 | nil=>intro x z h;exact ⟨x,nav_nil x,h⟩
 | cons a p ih =>
   obtain ⟨i,j⟩:=a;intro x z h;obtain ⟨es,xs,e,c,rfl,he,hc,h⟩:=(AF ..).1 h;obtain ⟨y,h1,h2⟩:=ih _ _ h;exact ⟨y,(AF ..).2 ⟨es,xs,e,c,rfl,he,hc,h1⟩,h2⟩
theorem Jr (c:AV)(h:∀cs,c≠.agg cs):c.cells = [c]:=by
 cases c<;>first|rfl|exact absurd rfl (h _)
theorem S1 (e:AV)(h:∀cs,e≠.agg cs)(j:Nat)(c:AV):setCellOf e j c=c:=by
 cases e<;>first|rfl|exact absurd rfl (h _)
theorem CW (e:AV)(j:Nat)(c':AV)(hc':∀cs,c'≠.agg cs):(setCellOf e j c').cells.length=e.cells.length∧((j<e.cells.length) →
 ∀k,(setCellOf e j c').cells[k]? = if k=j then some c' else e.cells[k]?):=by
 by_cases ha:∃cs,e = .agg cs
 ·obtain ⟨cs,rfl⟩:=ha;refine ⟨by simp [setCellOf,AV.cells],fun h k=>?_⟩;simp only [setCellOf,AV.cells] at h ⊢;rw [List.getElem?_set];by_cases e:j=k
  ·subst e;simp [h]
  ·have e':¬k=j:=fun h=>e h.symm;simp [e,e']
 ·have ha':∀cs,e≠.agg cs:=fun cs h=>ha ⟨cs,h⟩;rw [S1 e ha',Jr e ha',Jr c' hc'];refine ⟨rfl,fun h k=>?_⟩;simp only [List.length_singleton,Nat.lt_one_iff] at h;subst h;cases k<;>simp
def AV.one:AV→Bool
 | .agg _=>false
 | _=>true
theorem AV.one_ne {c:AV}(h:c.one=true):∀cs,c≠.agg cs:=by intro cs e;subst e;simp [AV.one] at h
theorem Cs (p:Path):∀(x v x':AV),(∀cs,v≠.agg cs)→upd x p v=some x'→∀q,nav x' (p++q)=nav v q:=by
 induction p with
 | nil=>intro x v x' _ h q;rw [F7] at h;cases h;rfl
 | cons a p ih =>
   obtain ⟨i,j⟩:=a;intro x v x' hv h q;obtain ⟨es,xs,e,c,c',rfl,he,hc,hu,rfl⟩:=(FO ..).1 h;have hi:i<xs.length:=by
    rcases Nat.lt_or_ge i xs.length with h|h
    ·exact h
    ·rw [List.getElem?_eq_none h] at he;cases he
   have hj:j<e.cells.length:=by
    rcases Nat.lt_or_ge j e.cells.length with h|h
    ·exact h
    ·rw [List.getElem?_eq_none h] at hc;cases hc
   have hc':∀cs,c'≠.agg cs:=by
    cases p with
    | nil=>rw [F7] at hu;cases hu;exact hv
    | cons a p =>
      obtain ⟨i',j'⟩:=a;obtain ⟨_,_,_,_,_,_,_,_,_,rfl⟩:=(FO ..).1 hu;intro cs h;cases h
   have h1:=ih _ _ _ hv hu q;simp only [List.cons_append,nav];rw [List.getElem?_set_self hi];simp only;rw [(CW e j c' hc').2 hj j,if_pos rfl];exact h1
theorem nav_upd_other (p:Path):∀(x v x':AV),(∀cs,v≠.agg cs)→upd x p v=some x'→∀q y,¬p <+: q→nav x' q=some y →
 (∃es xs xs',q <+: p∧nav x q=some (.own es xs)∧y = .own es xs'∧xs'.length=xs.length ∧
   ∀i e',xs'[i]? = some e'→∃e,xs[i]? = some e∧e'.cells.length=e.cells.length ∧
    ∀j c',e'.cells[j]? = some c'→∃c,e.cells[j]? = some c∧(c'=c∨(p=q++[(i,j)]∧c'=v)∨(∃es' ys ys',c = .own es' ys∧c' = .own es' ys'∧ys'.length=ys.length)))
 ∨ nav x q=some y:=by
 induction p with
 | nil=>intro x v x' _ h q y hn;exact absurd List.nil_prefix hn
 | cons a p ih =>
   obtain ⟨i,j⟩:=a;intro x v x' hv h q y hn hq;obtain ⟨es,xs,e,c,c',rfl,he,hc,hu,rfl⟩:=(FO ..).1 h;have hi:i<xs.length:=by
    rcases Nat.lt_or_ge i xs.length with h|h
    ·exact h
    ·rw [List.getElem?_eq_none h] at he;cases he
   have hj:j<e.cells.length:=by
    rcases Nat.lt_or_ge j e.cells.length with h|h
    ·exact h
    ·rw [List.getElem?_eq_none h] at hc;cases hc
   have hc':∀cs,c'≠.agg cs:=by
    cases p with
    | nil=>rw [F7] at hu;cases hu;exact hv
    | cons a p =>
      obtain ⟨i',j'⟩:=a;obtain ⟨_,_,_,_,_,_,_,_,_,rfl⟩:=(FO ..).1 hu;intro cs h;cases h
   have hcs:=CW e j c' hc';cases q with
   | nil =>
     rw [nav_nil] at hq;cases hq;refine .inl ⟨es,xs,_,List.nil_prefix,nav_nil _,rfl,by simp,?_⟩;intro i' e' hi';by_cases ei:i'=i
     ·subst ei;rw [List.getElem?_set_self hi] at hi';cases hi';refine ⟨e,he,hcs.1,fun j' c1 hc1=>?_⟩;rw [hcs.2 hj j'] at hc1;by_cases ej:j'=j
      ·subst ej;rw [if_pos rfl] at hc1;cases hc1;refine ⟨c,hc,.inr ?_⟩;cases p with
       | nil=>rw [F7] at hu;cases hu;exact .inl ⟨rfl,rfl⟩
       | cons a p =>
         obtain ⟨i1,j1⟩:=a;obtain ⟨es',ys,e1,c2,c3,rfl,_,_,_,rfl⟩:=(FO ..).1 hu;exact .inr ⟨es',ys,_,rfl,rfl,by simp⟩
      ·rw [if_neg ej] at hc1;exact ⟨c1,hc1,.inl rfl⟩
     ·rw [List.getElem?_set_ne (fun h=>ei h.symm)] at hi';exact ⟨e',hi',rfl,fun j' c1 hc1=>⟨c1,hc1,.inl rfl⟩⟩
   | cons b q =>
     obtain ⟨i',j'⟩:=b;obtain ⟨es0,xs0,e0,c0,hx,he0,hc0,hq0⟩:=(AF ..).1 hq;cases hx;by_cases ei:i'=i
     ·subst ei;rw [List.getElem?_set_self hi] at he0;cases he0;rw [hcs.2 hj j'] at hc0;by_cases ej:j'=j
      ·subst ej;rw [if_pos rfl] at hc0;cases hc0;have hn':¬p <+: q:=fun hpq=>hn (by obtain ⟨t,rfl⟩:=hpq;exact ⟨t,rfl⟩);rcases ih _ _ _ hv hu q y hn' hq0 with ⟨es1,xs1,xs1',h1,h2,h3,h4,h5⟩|h1
       ·refine .inl ⟨es1,xs1,xs1',by obtain ⟨t,rfl⟩:=h1;exact ⟨t,rfl⟩,(AF ..).2 ⟨_,_,e,c,rfl,he,hc,h2⟩,h3,h4,?_⟩;intro i2 e2 he2;obtain ⟨e3,he3,hl,hall⟩:=h5 i2 e2 he2;refine ⟨e3,he3,hl,fun j2 c2 hc2=>?_⟩;obtain ⟨c3,hc3,h|⟨h,h'⟩|h⟩:=hall j2 c2 hc2
        ·exact ⟨c3,hc3,.inl h⟩
        ·exact ⟨c3,hc3,.inr (.inl ⟨by rw [h];rfl,h'⟩)⟩
        ·exact ⟨c3,hc3,.inr (.inr h)⟩
       ·exact .inr ((AF ..).2 ⟨_,_,e,c,rfl,he,hc,h1⟩)
      ·rw [if_neg ej] at hc0;exact .inr ((AF ..).2 ⟨_,_,e,c0,rfl,he,hc0,hq0⟩)
     ·rw [List.getElem?_set_ne (fun h=>ei h.symm)] at he0;exact .inr ((AF ..).2 ⟨_,_,e0,c0,rfl,he0,hc0,hq0⟩)
end Go.Mw
namespace Go.Mw
open Go.RowKit
structure Mem where
 blk:Nat→Path→Nat×Nat
 fz:Nat→Prop
def EE (w:World)(m:Mem)(r:Nat)(p:Path)(es off len:Nat)(c:Value):Prop :=
 ∃A cap,c = .slice (some A) len cap∧len≤cap∧(cap=0∨(A=⟨(m.blk r p).1,(m.blk r p).2+off*es,none⟩ ∧
  ∃arr ty,w.heap[(m.blk r p).1]? = some (.cells arr ty (0,0))∧(m.blk r p).2+(off+cap)*es≤arr.size))
def AV.isRef:AV→Bool
 | .sl .. | .ptr .. | .mp .. | .ent .. | .yld _=>true
 | _=>false
inductive VRel0 (w:World) (fz:Nat→Prop):AV→Value→Prop
 | undef (c:Value):VRel0 w fz .undef c
 | bool (b:Bool):VRel0 w fz (.bool b) (.bool b)
 | int (k:IntKind) (n:Int):VRel0 w fz (.int k n) (.int k n)
 | str (s:ByteArray):VRel0 w fz (.str s) (.string s)
 | nilp:VRel0 w fz .nilp (.pointer none)
 | nils:VRel0 w fz .nils (.slice none 0 0)
 | nilm:VRel0 w fz .nilm (.map none)
 | nilf:VRel0 w fz .nilf .nilFunc
 | emp (A:Option Addr):VRel0 w fz .emp (.slice A 0 0)
 | ne (A:Addr) (cap:Nat):VRel0 w fz .ne (.slice (some A) 0 cap)
 | lstn:VRel0 w fz (.lst []) (.slice none 0 0)
 | lst (xs:List AV) (A:Addr) (cap es:Nat) (vs:Nat→Nat→Value) (hcap:xs.length≤cap) (hfz:0<xs.length→fz A.block∧A.spot=none)
    (hes:∀(i:Nat) (e:AV),xs[i]? = some e→e.cells.length=es)
    (hc:∀(i:Nat) (e:AV) (j:Nat) (c:AV),xs[i]? = some e→e.cells[j]? = some c→c.one=true∧(vs i j).oneCell'=true∧w.cell? ⟨A.block,A.off+(i*es+j),none⟩=some (vs i j))
    (hr:∀(i:Nat) (e:AV) (j:Nat) (c:AV),xs[i]? = some e→e.cells[j]? = some c→VRel0 w fz c (vs i j)):VRel0 w fz (.lst xs) (.slice (some A) xs.length cap)
 | pfro (cs:List AV) (A:Addr) (vs:Nat→Value) (hfz:fz A.block) (hs:A.spot=none)
    (hc:∀(j:Nat) (c:AV),cs[j]? = some c→c.one=true∧(vs j).oneCell'=true∧w.cell? ⟨A.block,A.off+j,none⟩=some (vs j)) (hr:∀(j:Nat) (c:AV),cs[j]? = some c→VRel0 w fz c (vs j)) :
    VRel0 w fz (.pfro cs) (.pointer (some A))
 | fn (f:FuncId) (cs:List AV) (vs:Array Value) (hl:vs.size=cs.length) (hr:∀(j:Nat) (c:AV) (v:Value),cs[j]? = some c→vs[j]? = some v→VRel0 w fz c v) :
    VRel0 w fz (.fn f cs) (.func (.func f) #[] vs)
 | agg (cs:List AV) (vs:Array Value) (hl:vs.size=cs.length) (hr:∀(j:Nat) (c:AV) (v:Value),cs[j]? = some c→vs[j]? = some v→c.one=true∧v.oneCell'=true)
    (hr:∀(j:Nat) (c:AV) (v:Value),cs[j]? = some c→vs[j]? = some v→VRel0 w fz c v):VRel0 w fz (.agg cs) (.agg vs)
 | tup (cs:List AV) (vs:Array Value) (hl:vs.size=cs.length) (hr:∀(j:Nat) (c:AV) (v:Value),cs[j]? = some c→vs[j]? = some v→VRel0 w fz c v) :
    VRel0 w fz (.tup cs) (.tuple vs)
inductive VRel (w:World) (fz:Nat→Prop) (R:AV→Value→Prop):AV→Value→Prop
 | base (v:AV) (c:Value) (h:VRel0 w fz v c):VRel w fz R v c
 | fn (f:FuncId) (cs:List AV) (vs:Array Value) (hl:vs.size=cs.length) (hr:∀(j:Nat) (c:AV) (v:Value),cs[j]? = some c→vs[j]? = some v→VRel w fz R c v) :
    VRel w fz R (.fn f cs) (.func (.func f) #[] vs)
 | agg (cs:List AV) (vs:Array Value) (hl:vs.size=cs.length) (h1:∀(j:Nat) (c:AV) (v:Value),cs[j]? = some c→vs[j]? = some v→c.one=true∧v.oneCell'=true)
    (hr:∀(j:Nat) (c:AV) (v:Value),cs[j]? = some c→vs[j]? = some v→VRel w fz R c v):VRel w fz R (.agg cs) (.agg vs)
 | tup (cs:List AV) (vs:Array Value) (hl:vs.size=cs.length) (hr:∀(j:Nat) (c:AV) (v:Value),cs[j]? = some c→vs[j]? = some v→VRel w fz R c v) :
    VRel w fz R (.tup cs) (.tuple vs)
 | ref (v:AV) (c:Value) (hv:v.isRef=true) (h:R v c):VRel w fz R v c
theorem VRel0.mono {w w':World}{fz fz':Nat→Prop}(hw:∀b o v,fz b→w.cell? ⟨b,o,none⟩=some v→w'.cell? ⟨b,o,none⟩=some v)
 (hf:∀b,fz b→fz' b) {v:AV}{c:Value}(h:VRel0 w fz v c):VRel0 w' fz' v c:=by
 induction h with
 | undef c=>exact .undef c
 | bool b=>exact .bool b
 | int k n=>exact .int k n
 | str s=>exact .str s
 | nilp=>exact .nilp
 | nils=>exact .nils
 | nilm=>exact .nilm
 | nilf=>exact .nilf
 | emp A=>exact .emp A
 | ne A cap=>exact .ne A cap
 | lstn=>exact .lstn
 | lst xs A cap es vs hcap hfz hes hc hr ih =>
   refine .lst xs A cap es vs hcap (fun h=>⟨hf _ (hfz h).1,(hfz h).2⟩) hes (fun i e j c hi hj=>?_) ih;have h0:0<xs.length:=by
    rcases Nat.lt_or_ge i xs.length with h|h
    ·omega
    ·rw [List.getElem?_eq_none h] at hi;cases hi
   obtain ⟨g1,g2,g3⟩:=hc i e j c hi hj;exact ⟨g1,g2,hw _ _ _ (hfz h0).1 g3⟩
 | pfro cs A vs hfz hs hc hr ih =>
   refine .pfro cs A vs (hf _ hfz) hs (fun j c hj=>?_) ih;obtain ⟨g1,g2,g3⟩:=hc j c hj;exact ⟨g1,g2,hw _ _ _ hfz g3⟩
 | fn f cs vs hl hr ih=>exact .fn f cs vs hl ih
 | agg cs vs hl h1 hr ih=>exact .agg cs vs hl h1 ih
 | tup cs vs hl hr ih=>exact .tup cs vs hl ih
theorem VRel.mono {w w':World}{fz fz':Nat→Prop}{R R':AV→Value→Prop}(hw:∀b o v,fz b→w.cell? ⟨b,o,none⟩=some v→w'.cell? ⟨b,o,none⟩=some v)
 (hf:∀b,fz b→fz' b) (hR:∀v c,R v c→R' v c) {v:AV}{c:Value}(h:VRel w fz R v c):VRel w' fz' R' v c:=by
 induction h with
 | base v c h=>exact .base v c (h.mono hw hf)
 | fn f cs vs hl hr ih=>exact .fn f cs vs hl ih
 | agg cs vs hl h1 hr ih=>exact .agg cs vs hl h1 ih
 | tup cs vs hl hr ih=>exact .tup cs vs hl ih
 | ref v c hv h=>exact .ref v c hv (hR _ _ h)
def CellR (w:World)(m:Mem)(r:Nat)(q:Path)(c:AV)(v:Value):Prop :=
 match c with
 | .own es xs=>EE w m r q es 0 xs.length v
 | .ownm _=>v = .map (some (m.blk r q).1)
 | .gone=>True
 | c=>VRel0 w m.fz c v
def NodeF (w:World)(m:Mem)(r:Nat)(p:Path)(nd:AV):Prop :=
 match nd with
 | .own es xs=>0<es∧∃arr ty,w.heap[(m.blk r p).1]? = some (.cells arr ty (0,0)) ∧
    ∀(i:Nat) (e:AV),xs[i]? = some e→e.cells.length=es∧∀(j:Nat) (c:AV),e.cells[j]? = some c→c.one=true∧∃v,arr[(m.blk r p).2+(i*es+j)]? = some v∧v.oneCell'=true∧CellR w m r (p++[(i,j)]) c v
 | .ownm es=>∃ents clock,w.heap[(m.blk r p).1]? = some (.map ents clock)∧ents.size=es.length ∧
    (∀(i:Nat) (k v:AV),es[i]? = some (k,v)→∃e:MapEntry,ents[i]? = some e∧VRel0 w m.fz k e.key∧VRel0 w m.fz v e.val) ∧
    (∀(i:Nat) (e:MapEntry),ents[i]? = some e→e.born<clock)∧(∀(i j:Nat) (ei ej:MapEntry),ents[i]? = some ei→ents[j]? = some ej→ei.born=ej.born→i=j)
 | _=>True
structure Rel (w0:World)(fz0:Nat→Prop)(m:Mem)(h:List Ob)(w:World):Prop where
 below:Below w0.heap.size w0 w
 fzlt:∀b,m.fz b→b<w.heap.size
 fzin:∀b,fz0 b→m.fz b
 fzge:∀b,m.fz b→fz0 b∨w0.heap.size≤b
 nodes:∀r p nd,nodeAt h r p=some nd→NodeF w m r p nd
 lo:∀r p nd,nodeAt h r p=some nd→isNode nd=true→w0.heap.size≤(m.blk r p).1∧¬m.fz (m.blk r p).1
 inj:∀r p nd r' p' nd',nodeAt h r p=some nd→isNode nd=true→nodeAt h r' p'=some nd'→isNode nd'=true→(m.blk r p).1=(m.blk r' p').1→r=r'∧p=p'
def RefR (w:World)(m:Mem)(h:List Ob)(L:Nat→Nat→Prop)(v:AV)(c:Value):Prop :=
 match v with
 | .sl r st p ss off len=>∃o,h[r]? = some o∧st≤o.st∧(st=o.st→p≠[]→ss≤o.ss) ∧
    (∀es xs,node h r st p ss=some (.own es xs)→off+len≤xs.length∧EE w m r p es off len c)
 | .ptr r st p ss i j=>∃o,h[r]? = some o∧st≤o.st∧(st=o.st→p≠[]→ss≤o.ss) ∧
    (∀es xs,node h r st p ss=some (.own es xs)→c = .pointer (some ⟨(m.blk r p).1,(m.blk r p).2+(i*es+j),none⟩))
 | .mp r st p ss=>∃o,h[r]? = some o∧st≤o.st∧(st=o.st→p≠[]→ss≤o.ss) ∧
    (∀es,node h r st p ss=some (.ownm es)→c = .map (some (m.blk r p).1))
 | .ent r st p ss i=>∃o,h[r]? = some o∧st≤o.st∧(st=o.st→p≠[]→ss≤o.ss) ∧
    (∀es,node h r st p ss=some (.ownm es)→∃(ents:Array MapEntry) (clock:Nat) (e:MapEntry),w.heap[(m.blk r p).1]? = some (.map ents clock)∧ents[i]? = some e∧c = .int .i64 e.born)
 | .yld l=>∃la,c = .func (.yield la) #[] #[]∧L l la
 | _=>False
theorem Bf {h:List Ob}{r st:Nat}{p:Path}{ss:Nat}{nd:AV}:node h r st p ss=some nd ↔
 ∃o,h[r]? = some o∧o.st=st∧(p = []∨o.ss=ss)∧nav o.c p=some nd:=by
 unfold node;constructor
 ·intro hh;cases ho:h[r]? with
  | none=>rw [ho] at hh;cases hh
  | some o =>
    rw [ho] at hh;simp only at hh;split at hh
    ·rename_i hc;exact ⟨o,rfl,hc.1,hc.2,hh⟩
    ·cases hh
 ·rintro ⟨o,ho,h1,h2,h3⟩;rw [ho];simp only;rw [if_pos ⟨h1,h2⟩];exact h3
theorem Ac {h:List Ob}{r:Nat}{p:Path}{nd:AV}:nodeAt h r p=some nd↔∃o,h[r]? = some o∧nav o.c p=some nd:=by
 unfold nodeAt;cases h[r]? <;> simp
theorem CK {h:List Ob}{r st:Nat}{p:Path}{ss:Nat}{nd:AV}(hh:node h r st p ss=some nd):nodeAt h r p=some nd:=by
 obtain ⟨o,h1,_,_,h2⟩:=Bf.1 hh;exact Ac.2 ⟨o,h1,h2⟩
def Jt (nd nd':AV):Prop :=
 match nd' with
 | .own es xs'=>∃xs,nd = .own es xs∧xs.length≤xs'.length
 | .ownm es'=>∃es,nd = .ownm es∧es.length≤es'.length
 | _=>True
theorem Fr (nd:AV):Jt nd nd:=by cases nd<;>simp [Jt]
theorem Ou {a b c:AV}(h:Jt a b)(k:Jt b c):Jt a c:=by
 cases c<;>simp only [Jt] at k ⊢
 ·obtain ⟨xs,rfl,h1⟩:=k;obtain ⟨ys,rfl,h2⟩:=h;exact ⟨ys,rfl,by omega⟩
 ·obtain ⟨xs,rfl,h1⟩:=k;obtain ⟨ys,rfl,h2⟩:=h;exact ⟨ys,rfl,by omega⟩
def BQ (m m':Mem)(r:Nat)(o o':Ob):Prop :=
 o.st<o'.st∨(o.st=o'.st∧((o.ss<o'.ss∧∀nd',o'.c=nd'→isNode nd'=true→Jt o.c nd'∧m'.blk r []=m.blk r []) ∨
  (o.ss=o'.ss∧∀p nd',nav o'.c p=some nd'→isNode nd'=true→∃nd,nav o.c p=some nd∧Jt nd nd'∧m'.blk r p=m.blk r p)))
def Ahv:Obj→Bool
 | .loop _=>true
 | .deferred _=>true
 | _=>false
def PD (w w':World):Prop :=
 (∀(b:Nat) (arr:Array Value) (ty:TypeId),w.heap[b]? = some (.cells arr ty (0,0))→∃arr':Array Value,w'.heap[b]? = some (.cells arr' ty (0,0))∧arr'.size=arr.size) ∧
 (∀(b:Nat) (ents:Array MapEntry) (clock:Nat),w.heap[b]? = some (.map ents clock)→∃(ents':Array MapEntry) (clock':Nat),w'.heap[b]? = some (.map ents' clock')∧∀(i:Nat) (e:MapEntry),ents[i]? = some e→∃e':MapEntry,ents'[i]? = some e'∧e'.born=e.born)
def WKeep (w w':World):Prop :=
 (∀(b:Nat) (arr:Array Value) (ty:TypeId),w.heap[b]? = some (.cells arr ty (0,0))→∃arr':Array Value,w'.heap[b]? = some (.cells arr' ty (0,0))∧arr'.size=arr.size) ∧
 (∀(b:Nat) (ents:Array MapEntry) (clock:Nat),w.heap[b]? = some (.map ents clock)→∃(ents':Array MapEntry) (clock':Nat),w'.heap[b]? = some (.map ents' clock')∧∀(i:Nat) (e:MapEntry),ents[i]? = some e→∃e':MapEntry,ents'[i]? = some e'∧e'.born=e.born) ∧
 (∀(b:Nat) (o:Obj),w.heap[b]? = some o→Ahv o=true→w'.heap[b]? = some o)∧w.heap.size≤w'.heap.size
theorem WKeep.zero {w w':World}(h:WKeep w w'):PD w w':=⟨h.1,h.2.1⟩
theorem WKeep.refl (w:World):WKeep w w:=⟨fun b arr ty h=>⟨arr,h,rfl⟩,fun b ents clock h=>⟨ents,clock,h,fun i e h=>⟨e,h,rfl⟩⟩,fun b o h _=>h,Nat.le_refl _⟩
theorem EE.mono0 {w w':World}{m m':Mem}(hw:PD w w'){r:Nat}{p:Path}{r':Nat}{p':Path}(hb:m'.blk r' p'=m.blk r p){es off len:Nat}{c:Value}(h:EE w m r p es off len c):EE w' m' r' p' es off len c:=by
 obtain ⟨A,cap,rfl,hl,h⟩:=h;refine ⟨A,cap,rfl,hl,h.imp id fun ⟨h1,arr,ty,h2,h3⟩=>?_⟩;obtain ⟨arr',h4,h5⟩:=hw.1 _ _ _ h2;rw [hb];exact ⟨h1,arr',ty,h4,by omega⟩
theorem EE.mono {w w':World}{m m':Mem}(hw:WKeep w w'){r:Nat}{p:Path}{r':Nat}{p':Path}(hb:m'.blk r' p'=m.blk r p){es off len:Nat}{c:Value}(h:EE w m r p es off len c):EE w' m' r' p' es off len c:=h.mono0 hw.zero hb
theorem BQ.node {m m':Mem}{r:Nat}{h h':List Ob}{o o':Ob}(ho:h[r]? = some o)(ho':h'[r]? = some o')(hs:BQ m m' r o o'){st:Nat}{p:Path}{ss:Nat}{nd':AV}
 (h1:st≤o.st) (h2:st=o.st→p≠[]→ss≤o.ss) (hn:node h' r st p ss=some nd') (hi:isNode nd'=true) :
 ∃nd,node h r st p ss=some nd∧Jt nd nd'∧m'.blk r p=m.blk r p:=by
 obtain ⟨o1,e1,e2,e3,e4⟩:=Bf.1 hn;rw [ho'] at e1;cases e1;rcases hs with hs|⟨hs,⟨hss,hs1⟩|⟨hss,hs1⟩⟩
 ·omega
 ·rcases e3 with rfl|e3
  ·rw [nav_nil] at e4;cases e4;obtain ⟨hc,hb⟩:=hs1 _ rfl hi;exact ⟨o.c,Bf.2 ⟨o,ho,by omega,.inl rfl,nav_nil _⟩,hc,hb⟩
  ·by_cases hp:p = []
   ·subst hp;rw [nav_nil] at e4;cases e4;obtain ⟨hc,hb⟩:=hs1 _ rfl hi;exact ⟨o.c,Bf.2 ⟨o,ho,by omega,.inl rfl,nav_nil _⟩,hc,hb⟩
   ·have:=h2 (by omega) hp;omega
 ·obtain ⟨nd,g1,g2,g3⟩:=hs1 p nd' e4 hi;exact ⟨nd,Bf.2 ⟨o,ho,by omega,e3.imp id (fun h=>by omega),g1⟩,g2,g3⟩
theorem BQ.le {m m':Mem}{r:Nat}{o o':Ob}(hs:BQ m m' r o o'){st:Nat}{p:Path}{ss:Nat}(h1:st≤o.st)(h2:st=o.st→p≠[]→ss≤o.ss) :
 st≤o'.st∧(st=o'.st→p≠[]→ss≤o'.ss):=by
 rcases hs with hs|⟨hs,⟨hss,_⟩|⟨hss,_⟩⟩
 ·exact ⟨by omega,fun h=>by omega⟩
 ·exact ⟨by omega,fun h hp=>by have:=h2 (by omega) hp;omega⟩
 ·exact ⟨by omega,fun h hp=>by have:=h2 (by omega) hp;omega⟩
theorem BQ.refl (m:Mem)(r:Nat)(o:Ob):BQ m m r o o:=.inr ⟨rfl,.inr ⟨rfl,fun p nd h _=>⟨nd,h,Fr nd,rfl⟩⟩⟩
def HStep (m m':Mem)(h h':List Ob):Prop:=∀r o,h[r]? = some o→∃o',h'[r]? = some o'∧BQ m m' r o o'
theorem HStep.refl (m:Mem)(h:List Ob):HStep m m h h:=fun r o ho=>⟨o,ho,BQ.refl m r o⟩
theorem RefR.mono0 {w w':World}{m m':Mem}{h h':List Ob}{L L':Nat→Nat→Prop}(hw:PD w w')(hs:HStep m m' h h')(hL:∀l la,L l la→L' l la){v:AV}{c:Value}
 (hr:RefR w m h L v c):RefR w' m' h' L' v c:=by
 cases v<;>simp only [RefR] at hr ⊢
 case sl r st p ss off len =>
  obtain ⟨o,ho,h1,h2,h3⟩:=hr;obtain ⟨o',ho',hst⟩:=hs r o ho;obtain ⟨g1,g2⟩:=hst.le h1 h2;refine ⟨o',ho',g1,g2,fun es xs hn=>?_⟩;obtain ⟨nd,hn',hc,hb⟩:=hst.node ho ho' h1 h2 hn rfl;obtain ⟨ys,rfl,hl⟩:=hc;obtain ⟨k1,k2⟩:=h3 _ _ hn';exact ⟨by omega,k2.mono0 hw hb⟩
 case ptr r st p ss i j =>
  obtain ⟨o,ho,h1,h2,h3⟩:=hr;obtain ⟨o',ho',hst⟩:=hs r o ho;obtain ⟨g1,g2⟩:=hst.le h1 h2;refine ⟨o',ho',g1,g2,fun es xs hn=>?_⟩;obtain ⟨nd,hn',hc,hb⟩:=hst.node ho ho' h1 h2 hn rfl;obtain ⟨ys,rfl,hl⟩:=hc;rw [hb];exact h3 _ _ hn'
 case mp r st p ss =>
  obtain ⟨o,ho,h1,h2,h3⟩:=hr;obtain ⟨o',ho',hst⟩:=hs r o ho;obtain ⟨g1,g2⟩:=hst.le h1 h2;refine ⟨o',ho',g1,g2,fun es hn=>?_⟩;obtain ⟨nd,hn',hc,hb⟩:=hst.node ho ho' h1 h2 hn rfl;obtain ⟨ys,rfl,hl⟩:=hc;rw [hb];exact h3 _ hn'
 case ent r st p ss i =>
  obtain ⟨o,ho,h1,h2,h3⟩:=hr;obtain ⟨o',ho',hst⟩:=hs r o ho;obtain ⟨g1,g2⟩:=hst.le h1 h2;refine ⟨o',ho',g1,g2,fun es hn=>?_⟩;obtain ⟨nd,hn',hc,hb⟩:=hst.node ho ho' h1 h2 hn rfl;obtain ⟨ys,rfl,hl⟩:=hc;obtain ⟨ents,clock,e,k1,k2,rfl⟩:=h3 _ hn';obtain ⟨ents',clock',k3,k4⟩:=hw.2 _ _ _ k1;obtain ⟨e',k5,k6⟩:=k4 _ _ k2;rw [hb];exact ⟨ents',clock',e',k3,k5,by rw [k6]⟩
 case yld l=>obtain ⟨la,h1,h2⟩:=hr;exact ⟨la,h1,hL _ _ h2⟩
theorem RefR.mono {w w':World}{m m':Mem}{h h':List Ob}{L L':Nat→Nat→Prop}(hw:WKeep w w')(hs:HStep m m' h h')(hL:∀l la,L l la→L' l la){v:AV}{c:Value}
 (hr:RefR w m h L v c):RefR w' m' h' L' v c:=hr.mono0 hw.zero hs hL
end Go.Mw
