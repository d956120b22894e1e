/- Evaluation. No theorem about the model here. -/
import Derived.Test.YtondemeliogjmaaGreatM08
import Derived.AtR
import Derived.RangeFuncRecord
import Derived.RangeFuncNested
set_option linter.unusedVariables false
set_option linter.unusedSimpArgs false
namespace Go.Mw
mutual
def rootsOf:AV→List Nat
 | .sl r _ _ _ _ _=>[r]
 | .ptr r _ _ _ _ _=>[r]
 | .mp r _ _ _=>[r]
 | .ent r _ _ _ _=>[r]
 | .agg cs=>rootsL cs
 | .tup cs=>rootsL cs
 | .fn _ cs=>rootsL cs
 | _=>[]
def rootsL:List AV→List Nat
 | []=>[]
 | x::xs=>rootsOf x++rootsL xs
end
mutual
def treeB (B:Nat)(h:List Ob):AV→AV
 | .sl r st p ss off len=>if r<B then .sl r st p ss off len else AaI h (.sl r st p ss off len)
 | .ptr r st p ss i j=>if r<B then .ptr r st p ss i j else AaI h (.ptr r st p ss i j)
 | .mp r st p ss=>if r<B then .mp r st p ss else .undef
 | .ent .. => .undef
 | .yld _=>.undef
 | .gone=>.undef
 | .own _ _=>.undef
 | .ownm _=>.undef
 | .agg cs=>.agg (treeBL B h cs)
 | .tup cs=>.tup (treeBL B h cs)
 | .fn f cs=>.fn f (treeBL B h cs)
 | .nils=>.lst []
 | .emp=>.lst []
 | .ne=>.lst []
 | v=>v
def treeBL (B:Nat)(h:List Ob):List AV→List AV
 | []=>[]
 | x::xs=>treeB B h x::treeBL B h xs
end
def Jv:Ob:={ st:=0,ss:=0,c:=.gone }
def At (h:List Ob)(rs:List Nat):List Ob :=
 rs.foldl (fun h r=>h.modify r fun o=>{ o with c:=.gone }) h
def kill (ts:List Nat)(t:List AV):List AV:=ts.foldl (fun t i=>t.set i .undef) t
def freeSites (base:Nat)(ss:List Nat)(h:List Ob):List Ob:=At h (ss.map (base + ·))
def setPs:List Nat→List AV→List AV→List AV
 | p::ps,v::vs,t=>setPs ps vs (t.set p v)
 | _,_,t=>t
def wantedO (g:Option (Nat×Bool))(σ:St):Option Bool :=
 match g with
 | none=>some true
 | some (t,want)=>match σ.t[t]? with
   | some (.bool b)=>some (b==want)
   | some (.tup [])=>some false
   | _=>none
def resT (σ:St):List (Nat×Option (Bool×Nat))→Option (List AV)
 | []=>some []
 | (t,none)::rs=>match σ.t[t]?,resT σ rs with
   | some v,some vs=>some (v::vs)
   | _,_=>none
 | (t,some (ag,n))::rs=>match ax 0 (.ld ag n (.t t)) σ,resT σ rs with
   | some (v,_),some vs=>some (v::vs)
   | _,_=>none
def AV.void:AV→Bool
 | .nils | .emp=>true
 | _=>false
def splits (F:IF)(xs:List AV):Bool :=
 match F.split,xs with
 | true,[.lst []]=>true
 | _,_=>false
def packV:List AV→AV
 | [v]=>v
 | vs=>.tup vs
def XT (p q:Path):Bool := !(p.isPrefixOf q) && !(q.isPrefixOf p)
def YL (D:List (Nat×Path))(r:Nat)(p:Path):Bool:=D.all fun d=>d.1 != r||XT d.2 p
def O5 (B:Nat)(h1:List Ob)(b:Nat)(D:List (Nat×Path))(ss:List Nat)(h0:List Ob):AV→Option (AV×List (Nat×Path)×List Nat×List Ob)
 | .nils=>some (.nils,D,ss.tail,h0)
 | .emp=>some (.emp,D,ss.tail,h0)
 | .sl r st p sb off len=>match ss with
   | s::ss=>if B≤r∧YL D r p=true then
      match node h1 r st p sb with
      | some (.own es xs)=>if off=0∧len=xs.length then
         match newOb h0 (b+s) (.own es xs) with
         | some (h,st')=>some (.sl (b+s) st' [] 0 0 len,(r,p)::D,ss,h)
         | none=>none
        else none
      | _=>none
     else none
   | []=>none
 | v=>if v.flat=true then some (v,D,ss,h0) else none
def Ng (B:Nat)(h1:List Ob)(b:Nat):List (Nat×Path)→List Nat→List Ob→List AV→Option (List AV×List (Nat×Path)×List Nat×List Ob)
 | D,ss,h0,[]=>some ([],D,ss,h0)
 | D,ss,h0,v::vs=>match O5 B h1 b D ss h0 v with
   | some (u,D',ss',h)=>match Ng B h1 b D' ss' h vs with
     | some (us,D'',ss'',h')=>some (u::us,D'',ss'',h')
     | none=>none
   | none=>none
def Ms (B:Nat)(h1:List Ob)(b:Nat):List (Nat×Path)→List Nat→List Ob→List AV→Option (List AV×List (Nat×Path)×List Nat×List Ob)
 | D,ss,h0,[]=>some ([],D,ss,h0)
 | D,ss,h0,v::vs=>match (match v with
    | .agg cs=>match Ng B h1 b D ss h0 cs with
      | some (us,x)=>some (AV.agg us,x)
      | none=>none
    | v=>O5 B h1 b D ss h0 v) with
   | some (u,D',ss',h)=>match Ms B h1 b D' ss' h vs with
     | some (us,D'',ss'',h')=>some (u::us,D'',ss'',h')
     | none=>none
   | none=>none
def NQ (fo:Bool)(B:Nat)(h1 h0:List Ob)(b:Nat)(ss:List Nat)(rs:List AV):Option (AV×List Ob) :=
 match fo,rs,ss with
 | true,[.sl r st p sb off len],[s]=>if B≤r then
    match node h1 r st p sb with
    | some (.own es xs)=>if off=0∧len=xs.length∧xs.all (fun e:AV=>e.cells.all AV.plain)=true then
       match newOb h0 (b+s) (.own es xs) with
       | some (h,st')=>some (.sl (b+s) st' [] 0 0 len,h)
       | none=>none
      else none
    | _=>none
   else some (.sl r st p sb off len,h0)
 | true,[.sl r st p sb off len,.int κ n],[s]=>if B≤r then
    match node h1 r st p sb with
    | some (.own es xs)=>if off=0∧len=xs.length∧xs.all (fun e:AV=>e.cells.all AV.plain)=true then
       match newOb h0 (b+s) (.own es xs) with
       | some (h,st')=>some (.tup [.sl (b+s) st' [] 0 0 len,.int κ n],h)
       | none=>none
      else none
    | _=>none
   else none
 | true,[.int κ n,.sl r st p sb off len],[s]=>if B≤r then
    match node h1 r st p sb with
    | some (.own es xs)=>if off=0∧len=xs.length∧xs.all (fun e:AV=>e.cells.all AV.plain)=true then
       match newOb h0 (b+s) (.own es xs) with
       | some (h,st')=>some (.tup [.int κ n,.sl (b+s) st' [] 0 0 len],h)
       | none=>none
      else none
    | _=>none
   else some (.tup [.int κ n,.sl r st p sb off len],h0)
 | true,[.nils,.int κ n],_=>some (.tup [.nils,.int κ n],h0)
 | true,[.emp,.int κ n],_=>some (.tup [.emp,.int κ n],h0)
 | true,[.nils],_=>some (.emp,h0)
 | true,[.emp],_=>some (.emp,h0)
 | true,rs,ss=>match Ms B h1 b [] ss h0 rs with
   | some (vs,_,_,h)=>some (packV vs,h)
   | none=>none
 | false,rs,_=>some (packV (treeBL B h1 rs),h0)
def Ins.opds:Ins→List Opd
 | .mov x | .bxf x | .box _ _ x | .ld _ _ x | .un _ x | .cvi _ x | .fad _ x | .fld _ _ _ x | .ext x _ | .lens x | .lenl x | .lenm x | .clr _ x=>[x]
 | .pick c a b=>[c,a,b]
 | .alc .. | .mkm _ | .bad=>[]
 | .bld _ ps=>ps.map (·.2.2)
 | .bsl _ _ _ xs=>xs
 | .sto _ a x | .bin _ a x | .beq _ a x | .nilc _ a x | .eqa _ _ a x | .mks _ _ _ _ a x | .iad _ a x | .iaa _ _ a x | .idx a x | .ixa _ _ _ a x | .lok _ _ _ a x | .men _ _ a x | .app _ _ _ a x | .mxn _ a x | .cpy a x=>[a,x]
 | .mup _ a k x=>[a,k,x]
 | .est a k x=>[a,k,x]
 | .mkf _ cs=>cs
 | .sli _ x lo hi mx=>[x]++lo.toList++hi.toList++mx.toList
 | .ssl x lo hi=>[x]++lo.toList++hi.toList
 | .call _ az _=>az
 | .calv f az _=>f::az
def Ins.sites:Ins→List Nat
 | .alc s _ _ | .box s _ _ | .bsl s _ _ _ | .mkm s | .mks s _ _ _ _ _ | .app s _ _ _ _=>[s]
 | .call _ _ ss=>ss
 | .calv _ _ ss=>ss
 | _=>[]
def Ins.dry:Ins→Bool
 | .mov _ | .pick .. | .bin .. | .beq .. | .eqa .. | .un .. | .cvi .. | .mkf .. | .ssl .. | .fld .. | .idx .. | .ixa .. | .ext .. | .lens .. | .mxn .. | .bxf .. | .bad=>true
 | _=>false
def Ins.calm:Ins→Bool
 | .bld .. | .ld .. | .nilc .. | .sli .. | .fad .. | .iad .. | .iaa .. | .lok .. | .lenl .. | .lenm .. => true
 | i=>i.dry
def foot (G:Prg)(b:Nat)(i:Ins)(σ:St):Option (List Nat) :=
 match i with
 | .call f az ss=>match G f with
   | some F=>if F.pure then some (ss.map (b + ·)++rootsL (σ.gets az)) else none
   | none=>none
 | .calv x az ss=>match σ.get x with
   | .fn f cs=>match G f with
     | some F=>if F.pure then some (ss.map (b + ·)++rootsL (σ.gets az++cs)) else none
     | none=>none
   | _=>none
 | i=>if i.dry then some [] else some (i.sites.map (b + ·)++rootsL (σ.gets i.opds))
def K8 (a b:Option (List Nat)):Bool :=
 match a,b with
 | some [],_=>true
 | _,some []=>true
 | some a,some b=>a.all fun r => !b.contains r
 | _,_=>false
def J8 (f:Ins→Nat→St→Option (AV×St)):List Rop→Nat→St→Option St
 | [],_,σ=>some σ
 | o::os,b,σ=>match wantedO o.g σ with
   | some true=>match f o.i b σ with
     | some (v,σ1)=>J8 f os b (σ1.put o.d v)
     | none=>none
   | some false=>J8 f os b (σ.put o.d (.tup []))
   | none=>none
def drwE (G:Prg)(f:Ins→Nat→St→Option (AV×St)):List Rop→Nat→St→Option (St×List (Option (List Nat)))
 | [],_,σ=>some (σ,[])
 | o::os,b,σ=>match wantedO o.g σ with
   | some true=>match f o.i b σ with
     | some (v,σ1)=>match drwE G f os b (σ1.put o.d v) with
       | some (σ2,fs)=>some (σ2,foot G b o.i σ::fs)
       | none=>none
     | none=>none
   | some false=>match drwE G f os b (σ.put o.d (.tup [])) with
     | some (σ2,fs)=>some (σ2,some []::fs)
     | none=>none
   | none=>none
inductive Sft where
 | no|rd (r:Nat) (q:Path)|ap (r:Nat) (p:Path) (os:List Nat)|cm (os:List Nat)|nw (s:Nat)
def LY (h:List Ob)(es:Nat)(y:AV):Bool :=
 match y with
 | .nils | .emp | .ne | .lst _=>true
 | .sl r st p ss off len=>match node h r st p ss with
   | some (.own es' ys)=>es'==es&&decide (off+len≤ys.length)&&((ys.drop off).take len).all (fun e:AV=>e.cells.all AV.plain)
   | _=>false
 | _=>false
def RR (b:Nat)(i:Ins)(σ:St):Sft :=
 match i with
 | .fad _ x=>match σ.get x with
   | .ptr r _ p _ _ _=>.rd r p
   | _=>.no
 | .iad _ x _=>match σ.get x with
   | .sl r _ p _ _ _=>.rd r p
   | _=>.no
 | .ld false 1 a=>match σ.get a with
   | .ptr r _ p _ i j=>match nodeAt σ.h r (p++[(i,j)]) with
     | some (.own ..)=>.rd r (p++[(i,j)])
     | _=>.no
   | _=>.no
 | .app s es _ (.c .nils) y=>if LY σ.h es (σ.get y)=true then .nw (b+s) else .no
 | .app s _ _ x y=>match σ.get x with
   | .sl r _ p _ _ _=>.ap r p ((b+s)::rootsOf (σ.get y))
   | _=>.no
 | .sli es x lo hi mx=>.cm (rootsL (σ.gets (Ins.opds (.sli es x lo hi mx))))
 | _=>.no
def Ae0 (r:Nat)(q:Path)(r':Nat)(p:Path)(os:List Nat):Bool := !os.contains r&&(r != r' || !p.isPrefixOf q)
def Aiz (a b:Sft):Bool :=
 match a,b with
 | .rd r q,.ap r' p os=>Ae0 r q r' p os
 | .ap r' p os,.rd r q=>Ae0 r q r' p os
 | .cm os,.nw s => !os.contains s
 | .nw s,.cm os => !os.contains s
 | _,_=>false
def Wf (f:Ins→Nat→St→Option (AV×St)):List Rop→Nat→St→List Sft
 | [],_,_=>[]
 | o::os,b,σ=>match wantedO o.g σ with
   | some true=>match f o.i b σ with
     | some (v,σ1)=>RR b o.i σ::Wf f os b (σ1.put o.d v)
     | none=>[]
   | some false=>.no::Wf f os b (σ.put o.d (.tup []))
   | none=>[]
def Agn (t:Nat)(σ:St):St :=
 match σ.t[t]? with
 | some v=>{ σ with t:=σ.t.set t (treeB 0 σ.h v),h:=At σ.h (rootsOf v) }
 | none=>σ
def mv1 (b t s:Nat)(σ:St):St :=
 match σ.t[t]? with
 | some (.sl r st [] ss 0 len)=>match node σ.h r st [] ss,σ.h[r]?,σ.h[b+s]? with
   | some (.own es xs),some o1,some o=>match o.c with
     | .gone=>if r≠b+s∧len=xs.length then
        { σ with t:=σ.t.set t (.sl (b+s) (o.st+1) [] 0 0 len),h:=(σ.h.set r { o1 with c:=.gone }).set (b+s) { st:=o.st+1,ss:=0,c:=.own es xs } }
       else σ
     | _=>σ
   | _,_,_=>σ
 | _=>σ
def Me:Ex→Option Ex
 | .nrm=>none
 | e=>some e
mutual
def evC (G:Prg):Nat→C→Nat→St→Option (Ex×St)
 | 0,_,_,_=>none
 | n+1,c,b,σ=>match c with
   | .skip=>some (.nrm,σ)
   | .reg ops=>match J8 (evO G n) ops b σ with
     | some σ1=>some (.nrm,σ1)
     | none=>none
   | .drw ops prs=>match drwE G (evO G n) ops b σ with
     | some (σ1,fs)=>if prs.all (fun p=>K8 (fs.getD p.1 none) (fs.getD p.2 none))=true then some (.nrm,σ1) else none
     | none=>none
   | .drs ops prs=>match drwE G (evO G n) ops b σ with
     | some (σ1,fs)=>if prs.all (fun p=>K8 (fs.getD p.1 none) (fs.getD p.2 none)||Aiz ((Wf (evO G n) ops b σ).getD p.1 .no) ((Wf (evO G n) ops b σ).getD p.2 .no))=true then some (.nrm,σ1) else none
     | none=>none
   | .seq x y=>match evC G n x b σ with
     | some (.nrm,σ1)=>evC G n y b σ1
     | r=>r
   | .cond x c d=>match σ.get x with
     | .bool true=>evC G n c b σ
     | .bool false=>evC G n d b σ
     | _=>none
   | .blk id c=>match evC G n c b σ with
     | some (.ext i,σ1)=>if i=id then some (.nrm,σ1) else some (.ext i,σ1)
     | r=>r
   | .loop kt ks c=>match evC G n c b { σ with t:=kill kt σ.t,h:=freeSites b ks σ.h } with
     | some (.nrm,σ1)=>evC G n (.loop kt ks c) b σ1
     | r=>r
   | .rngf f ps kt ks asg body=>match σ.get f with
     | .fn g cs =>
       match callF G n g (.yld σ.lp.length::cs) b [] { σ with lp:=σ.lp++[{ base:=b,t:=σ.t,ps,kt,ks,asg,body,pend:=none,busy:=false }] } with
       | some (_,σ1)=>match σ1.lp[σ.lp.length]? with
         | some lp=>if lp.busy then none else some (match lp.pend with
           | none=>.nrm
           | some e=>e,{ t:=σ.t,h:=σ1.h,lp:=σ1.lp.take σ.lp.length })
         | none=>none
       | none=>none
     | _=>none
   | .exit id=>some (.ext id,σ)
   | .ret=>some (.ret,σ)
   | .frzt t c=>evC G n c b (Agn t σ)
   | .mvt t s c=>evC G n c b (mv1 b t s σ)
termination_by structural n=>n
def evO (G:Prg):Nat→Ins→Nat→St→Option (AV×St)
 | 0,_,_,_=>none
 | n+1,i,b,σ=>match i with
   | .call f az ss=>callF G n f (σ.gets az) b ss σ
   | .calv x az ss=>match σ.get x with
     | .fn f cs=>callF G n f (σ.gets az++cs) b ss σ
     | .yld l=>yieldF G n l (σ.gets az) σ
     | _=>none
   | i=>match ax b i σ with
     | some (v,h)=>some (v,{ σ with h })
     | none=>none
termination_by structural n=>n
def callF (G:Prg):Nat→FuncId→List AV→Nat→List Nat→St→Option (AV×St)
 | 0,_,_,_,_,_=>none
 | n+1,f,az,b,ss,σ=>match G f with
   | some F=>if az.length=F.np then
      if F.pure then if splits F (treeBL 0 σ.h az) then match runF G n F [.nils] [] [],runF G n F [.ne] [] [] with
       | some ([x],_),some ([y],_)=>if x.void&&y.void then some (if F.fo && !ss.isEmpty then .emp else .lst [],σ) else none
       | _,_=>none
      else match runF G n F (treeBL 0 σ.h az) [] [] with
       | some (rs,σ1) =>
         match NQ (F.fo && !ss.isEmpty) 0 σ1.h (if az.all AV.free||rs.all AV.flats then σ.h else At σ.h (rootsL az)) b ss rs with
         | some (v,h)=>some (v,{ σ with h })
         | none=>none
       | none=>none
      else match runF G n F az σ.h σ.lp with
       | some (rs,σ1)=>match NQ (F.fo && !ss.isEmpty) σ.h.length σ1.h (σ1.h.take σ.h.length) b ss rs with
         | some (v,h)=>some (v,{ t:=σ.t,h,lp:=σ1.lp })
         | none=>none
       | none=>none
     else none
   | none=>none
termination_by structural n=>n
def runF (G:Prg):Nat→IF→List AV→List Ob→List Lp→Option (List AV×St)
 | 0,_,_,_,_=>none
 | n+1,F,az,h,lp=>match evC G n F.body h.length { t:=az++List.replicate (F.nt-F.np) (.tup []),h:=h++List.replicate F.ns Jv,lp } with
   | some (.nrm,σ1)=>match resT σ1 F.res with
     | some rs=>some (rs,σ1)
     | none=>none
   | some (.ret,σ1)=>match resT σ1 F.res with
     | some rs=>some (rs,σ1)
     | none=>none
   | _=>none
termination_by structural n=>n
def yieldF (G:Prg):Nat→Nat→List AV→St→Option (AV×St)
 | 0,_,_,_=>none
 | n+1,l,az,σ=>match σ.lp[l]? with
   | some lp=>if lp.busy=false∧lp.pend.isNone=true∧az.length=lp.ps.length then
      match evC G n lp.asg lp.base { t:=setPs lp.ps az (kill lp.kt lp.t),h:=freeSites lp.base lp.ks σ.h,lp:=σ.lp } with
      | some (.nrm,σ1)=>match σ1.lp[l]? with
        | some lp1=>if lp1.busy=false∧lp1.pend.isNone=true then
           match evC G n lp.body lp.base { σ1 with lp:=σ1.lp.set l { lp1 with busy:=true } } with
           | some (e,σ2)=>match σ2.lp[l]? with
             | some lp2=>some (.bool (Me e).isNone,{ t:=σ.t,h:=σ2.h,lp:=σ2.lp.set l { lp2 with busy:=false,pend:=Me e } })
             | none=>none
           | none=>none
          else none
        | none=>none
      | _=>none
     else none
   | none=>none
termination_by structural n=>n
end
open Go.RowKit
def bare:C→C
 | .seq a b=>.seq (bare a) (bare b)
 | .cond x a b=>.cond x (bare a) (bare b)
 | .blk id c=>.blk id (bare c)
 | .loop _ _ c=>.loop [] [] (bare c)
 | .rngf f ps _ _ a b=>.rngf f ps [] [] (bare a) (bare b)
 | .frzt _ c=>bare c
 | .drs ops prs=>.drw ops prs
 | .mvt _ _ c=>bare c
 | c=>c
def Ajs (sm:List Nat)(d:Option Nat):List Nat :=
 match d with
 | some d=>(List.range sm.length).filter fun i=>sm[i]? == some d
 | none=>[]
def YS (P:Program)(sm:List Nat)(o:Oper):Option Ins :=
 match o.op with
 | .call c=>match c.callee with
   | .value (.func f)=>match P.funcs[f]? with
     | some fn=>if (fn.name == "runtime.NumGoroutine")=false∧fn.body.isNone=false then (opds c.args.toList).map fun xs=>.call f xs (Ajs sm o.dst) else none
     | none=>none
   | .value (.tmp t)=>(opds c.args.toList).map fun xs=>.calv (.t t) xs (Ajs sm o.dst)
   | _=>BY P sm o
 | _=>BY P sm o
def AfR (P:Program)(sm:List Nat)(o:Oper):Option Ins:=some ((YS P sm o).getD .bad)
def Afy (ops:Array Oper)(g:Option (Nat×Bool)):Option (Option (Nat×Bool)) :=
 match g with
 | none=>some none
 | some (j,want)=>match (ops[j]?).bind (·.dst) with
   | some t=>some (some (t,want))
   | none=>none
def PV (P:Program)(sm:List Nat)(ops:Array Oper)(o:Oper):Option Rop :=
 match AfR P sm o,Afy ops o.guard with
 | some i,some g=>some { d:=o.dst,i,g }
 | _,_=>none
def K5 (P:Program)(sm:List Nat)(ops:Array Oper):List Oper→Option (List Rop)
 | []=>some []
 | o::os=>match PV P sm ops o,K5 P sm ops os with
   | some r,some rs=>some (r::rs)
   | _,_=>none
def Opd.tmps:Opd→List Nat
 | .t n=>[n]
 | .c _=>[]
def Rop.reads (r:Rop):List Nat:=r.i.opds.flatMap Opd.tmps++(match r.g with|some (t,_)=>[t]|none=>[])
def Rop.tfree (x y:Rop):Bool :=
 (match x.d with|some d => !(y.reads.contains d)&&y.d != some d|none=>true)&&(match y.d with|some d => !(x.reads.contains d)|none=>true)
def RW (ops:Array Oper)(i j:Nat):Bool:=((Region.before ops).getD j 0).testBit i
def AdN (n:Nat):List (Nat×Nat):=(List.range n).flatMap fun j=>(List.range j).map fun i=>(i,j)
def M5 (ops:Array Oper):List (Nat×Nat):=(AdN ops.size).filter fun p => !RW ops p.1 p.2
def Aj4 (x y:Rop):Bool:=x.i.dry||y.i.dry||(x.i.calm&&y.i.calm)
def zeq:AV→AV→Bool
 | .int a n,.int b m=>a==b&&n==m
 | .bool a,.bool b=>a==b
 | .nils,.nils=>true
 | .lst [],.lst []=>true
 | _,_=>false
theorem Ag3 {x y:AV}(h:zeq x y=true):x=y:=by
 unfold zeq at h;split at h
 ·simp only [Bool.and_eq_true,beq_iff_eq] at h;rw [h.1,h.2]
 ·simp only [beq_iff_eq] at h;rw [h]
 ·rfl
 ·rfl
 ·cases h
def viewPair:Ins→Ins→Bool
 | .lok kk z ok _ _,.men kk' z' _ _ => !ok&&kk==kk'&&zeq z z'
 | .men kk' z' _ _,.lok kk z ok _ _ => !ok&&kk==kk'&&zeq z z'
 | _,_=>false
def MA (md:Region.Mode)(ops:Array Oper)(l:List Nat):Bool :=
 (List.range ops.size).all fun i=>match ops[i]? with
   | some o=>l.contains i&&o.after.all fun e => !Region.binds md e||(decide (e.on<ops.size)&&decide (l.idxOf e.on<l.idxOf i))
   | none=>false
def Aei (ops:Array Oper):Bool :=
 [Region.Mode.any,.text,.gc].all fun md=>MA md ops (Region.linearise md ops 0)
def QS (ops:Array Oper)(rs:List Rop):Bool :=
 (ops.toList.zipIdx.all fun x=>x.1.after.all fun e => !Region.binds .any e||decide (e.on<x.2))&&Aei ops &&
 (M5 ops).all fun p=>match rs[p.1]?,rs[p.2]? with
  | some x,some y=>x.tfree y
  | _,_=>false
def Lc (ops:Array Oper)(rs:List Rop):List (Nat×Nat) :=
 (M5 ops).filter fun p=>match rs[p.1]?,rs[p.2]? with
  | some x,some y => !(Aj4 x y||viewPair x.i y.i)
  | _,_=>true
def compC (P:Program)(sm:List Nat):Code→Option C
 | .skip=>some .skip
 | .region _ ops draw=>match K5 P sm ops ops.toList with
   | some rs=>if draw then (if QS ops rs=true then some (.drw rs (Lc ops rs)) else none) else some (.reg rs)
   | none=>none
 | .seq a b=>match compC P sm a,compC P sm b with
   | some x,some y=>some (.seq x y)
   | _,_=>none
 | .cond c a b=>match opd c,compC P sm a,compC P sm b with
   | some c,some x,some y=>some (.cond c x y)
   | _,_,_=>none
 | .block id a=>(compC P sm a).map (.blk id)
 | .loop a=>(compC P sm a).map (.loop [] [])
 | .rangeFunc f ps a b=>match f,compC P sm a,compC P sm b with
   | .tmp t,some x,some y=>some (.rngf (.t t) ps.toList [] [] x y)
   | _,_,_=>none
 | .exit id=>some (.exit id)
 | .ret=>some .ret
 | _=>none
def JE (P:Program):List ResultVar→Option (List (Nat×Option (Bool×Nat)))
 | []=>some []
 | .tmp t::rs=>(JE P rs).map ((t,none)::·)
 | .cell a t::rs=>match XJ P t,szT P t,JE P rs with
   | some ag,some n,some rs=>if ag=true∨n=1 then some ((a,some (ag,n))::rs) else none
   | _,_,_=>none
def Af (P:Program)(f:FuncId)(sm:List Nat):Option (C×List (Nat×Option (Bool×Nat))×Nat) :=
 match P.funcs[f]? with
 | some fn=>match fn.body with
   | some c=>if (fn.name == "runtime.NumGoroutine")=false then match compC P sm c,JE P fn.results.toList with
      | some c,some rs=>some (c,rs,fn.ntmps)
      | _,_=>none
     else none
   | none=>none
 | none=>none
def AiE (P:Program)(G:Prg):Prop:=∀f F,G f=some F→∃sm,Af P f sm=some (bare F.body,F.res,F.nt)
abbrev Las:=List (Nat×Nat)
def Lof (las:Las)(l la:Nat):Prop:=∃top,las[l]? = some (la,top)
def Ajh (D:Nat):Deferred:={ target:=.collected D,args := #[] }
def Dfs (B:Nat)(w:World)(ds:List Deferred):Prop:=∃Ds:List Nat,ds=Ds.map Ajh∧Ds.Nodup∧∀D∈Ds,B≤D∧w.heap[D]? = some (.deferred (some []))
def jumpOf:Ex→Option Code
 | .nrm=>none
 | .ext id=>some (.exit id)
 | .ret=>some .ret
structure RecOk (P:Program)(w:World)(m:Mem)(h:List Ob)(las:Las)(lp:Lp)(r:Loop):Prop where
 asg:∃sm,compC P sm r.assign=some (bare lp.asg)∧compC P sm r.body=some (bare lp.body)
 ps:r.params.toList=lp.ps
 tr:TR w m h (Lof las) lp.t r.tmps
 st:r.state=if lp.busy then .busy else if lp.pend.isNone then .ready else .done
 pe:lp.busy=false→r.pending=(lp.pend.bind jumpOf)
 pn:lp.pend≠some .nrm
structure Lps (P:Program)(w0:World)(m:Mem)(las:Las)(h:List Ob)(w:World)(lp:List Lp):Prop where
 len:las.length=lp.length
 nd:(las.map (·.1)).Nodup
 ok:∀(l la top:Nat) (x:Lp),las[l]? = some (la,top)→lp[l]? = some x→w0.heap.size≤la∧top≤h.length∧∃r,w.heap[la]? = some (.loop r)∧RecOk P w m (h.take top) (las.take l) x r
structure Sim (P:Program)(w0:World)(fz0:Nat→Prop)(B:Nat)(m:Mem)(las:Las)(σ:St)(a:Act)(w:World):Prop where
 tr:TR w m σ.h (Lof las) σ.t a.tmps
 rel:Rel w0 fz0 m σ.h w
 lps:Lps P w0 m las σ.h w σ.lp
 dfs:Dfs B w a.defers
 bs:w0.heap.size≤B∧B≤w.heap.size
structure Ev (m:Mem)(h:List Ob)(w:World)(m':Mem)(h':List Ob)(w':World):Prop where
 st:HStep m m' h h'
 cel:∀(b:Nat) (arr:Array Value) (ty:TypeId),w.heap[b]? = some (.cells arr ty (0,0))→∃arr':Array Value,w'.heap[b]? = some (.cells arr' ty (0,0))∧arr'.size=arr.size
 map:∀(b:Nat) (ents:Array MapEntry) (clock:Nat),w.heap[b]? = some (.map ents clock)→∃(ents':Array MapEntry) (clock':Nat),w'.heap[b]? = some (.map ents' clock')∧∀(i:Nat) (e:MapEntry),ents[i]? = some e→∃e':MapEntry,ents'[i]? = some e'∧e'.born=e.born
 fk:FKeep w w' m.fz
 fz:∀b,m.fz b→m'.fz b
 dfr:∀(b:Nat) (ds:Option (List Deferred)),w.heap[b]? = some (.deferred ds)→w'.heap[b]? = some (.deferred ds)
 sz:w.heap.size≤w'.heap.size
def Goes (P:Program)(M:Machine)(fr:Frame)(k:List Item)(cs:List Frame)(a':Act)(w':World):Ex→Prop
 | .nrm=>Steps P M (lone (fr.atR a' k) cs w')
 | .ext id=>∃k0,(∀k,exitTo id (k0++k)=exitTo id k)∧Steps P M (lone (fr.atR a' (.code (.exit id)::(k0++k))) cs w')
 | .ret=>∃k0,Steps P M (lone (fr.atR a' (.code .ret::k0)) cs w')
theorem Ev.refl (m:Mem)(h:List Ob)(w:World):Ev m h w m h w :=
 ⟨HStep.refl m h,(WKeep.refl w).1,(WKeep.refl w).2.1,FKeep.refl w _,fun _ h=>h,fun _ _ h=>h,Nat.le_refl _⟩
theorem FKeep.trans {w w1 w2:World}{f f1:Nat→Prop}(h:FKeep w w1 f)(hf:∀b,f b→f1 b)(k:FKeep w1 w2 f1):FKeep w w2 f :=
 fun b o v hb hc=>k b o v (hf b hb) (h b o v hb hc)
theorem Ev.trans {m m1 m2:Mem}{h h1 h2:List Ob}{w w1 w2:World}(x:Ev m h w m1 h1 w1)(y:Ev m1 h1 w1 m2 h2 w2):Ev m h w m2 h2 w2:=by
 refine ⟨x.st.trans y.st,fun b arr ty hb=>?_,fun b ents clock hb=>?_,x.fk.trans x.fz y.fk,fun b hb=>y.fz b (x.fz b hb),fun b ds hb=>y.dfr b ds (x.dfr b ds hb),Nat.le_trans x.sz y.sz⟩
 ·obtain ⟨a1,h1,s1⟩:=x.cel b arr ty hb;obtain ⟨a2,h2,s2⟩:=y.cel b a1 ty h1;exact ⟨a2,h2,s2.trans s1⟩
 ·obtain ⟨e1,c1,h1,k1⟩:=x.map b ents clock hb;obtain ⟨e2,c2,h2,k2⟩:=y.map b e1 c1 h1;refine ⟨e2,c2,h2,fun i e he=>?_⟩;obtain ⟨e',g1,g2⟩:=k1 i e he;obtain ⟨e'',g3,g4⟩:=k2 i e' g1;exact ⟨e'',g3,g4.trans g2⟩
theorem Ev.of_keep {m m':Mem}{h h':List Ob}{w w':World}(hs:HStep m m' h h')(hk:WKeep w w')(hf:FKeep w w' m.fz)(hz:∀b,m.fz b→m'.fz b):Ev m h w m' h' w' :=
 ⟨hs,hk.1,hk.2.1,hf,hz,fun b ds hb=>hk.2.2.1 b _ hb rfl,hk.2.2.2⟩
theorem HStep.cut {m m':Mem}{h h':List Ob}(hs:HStep m m' h h')(t:Nat):HStep m m' (h.take t) (h'.take t):=by
 intro r o ho;have hlt:r<t:=by
  have:=List.lt_of_some ho;simp at this;omega
 rw [List.getElem?_take_of_lt hlt] at ho ⊢;exact hs r o ho
theorem Ev.cut {m m':Mem}{h h':List Ob}{w w':World}(he:Ev m h w m' h' w')(t:Nat):Ev m (h.take t) w m' (h'.take t) w':={ he with st:=he.st.cut t }
theorem HStep.len {m m':Mem}{h h':List Ob}(hs:HStep m m' h h'):h.length≤h'.length:=by
 rcases Nat.eq_zero_or_pos h.length with h0|h0
 ·omega
 ·obtain ⟨o',ho',_⟩:=hs (h.length-1) _ (List.getElem?_eq_getElem (by omega));have:=List.lt_of_some ho';omega
end Go.Mw
namespace Go.Mw
open Go.RowKit
section
variable {P:Program}{b:Frame}{a:Act}{k:List Item}{cs:List Frame}{w w':World}{ops:Array Oper}{i:Nat}{rest:List Nat}{o:Oper}
theorem SK (ho:ops[i]? = some o)(v:Value):(b.atR a (.inRegion ops (i::rest)::k)).finish v=b.atR (a.put o.dst v) (.inRegion ops rest::k):=by
 rw [Frame.finish_atR,ho];rfl
theorem ZP {v:Value}(ho:ops[i]? = some o)(hw:Region.wanted o (yielded ops a.tmps)=true)(hd:∀c,o.op≠.defer c)(hr:(execOp a.eval o).run P w = .ok (.value v) w') :
 step P (lone (b.atR a (.inRegion ops (i::rest)::k)) cs w) = .next (lone (b.atR (a.put o.dst v) (.inRegion ops rest::k)) cs w'):=by
 refine step_lone_go ?_;rw [stepGR_op ho hw,Oper.semAt_eq _ _ _ hd,←SK (b:=b) (k:=k) (rest:=rest) ho];simp [stepG.apply,hr]
theorem AaB (ho:ops[i]? = some o)(hw:Region.wanted o (yielded ops a.tmps)=true)(hd:∀c,o.op≠.defer c)(hr:(execOp a.eval o).run P w = .ok .skip w') :
 step P (lone (b.atR a (.inRegion ops (i::rest)::k)) cs w) = .next (lone (b.atR (a.put o.dst undef) (.inRegion ops rest::k)) cs w'):=by
 refine step_lone_go ?_;rw [stepGR_op ho hw,Oper.semAt_eq _ _ _ hd,←SK (b:=b) (k:=k) (rest:=rest) ho];simp [stepG.apply,hr]
theorem Z2 {f:FuncId}{args:Array Value}(ho:ops[i]? = some o)(hw:Region.wanted o (yielded ops a.tmps)=true)(hd:∀c,o.op≠.defer c)(hr:(execOp a.eval o).run P w = .ok (.enter f args) w') :
 step P (lone (b.atR a (.inRegion ops (i::rest)::k)) cs w) = .next (lone (Frame.enter P f args .normal) (b.atR a (.inRegion ops (i::rest)::k)::cs) w'):=by
 refine step_lone_go ?_;rw [stepGR_op ho hw,Oper.semAt_eq _ _ _ hd];simp [stepG.apply,hr,Frame.atR]
theorem Zd {l f:Nat}{tmps:Array Value}{asg body:Code}(ho:ops[i]? = some o)(hw:Region.wanted o (yielded ops a.tmps)=true)(hd:∀c,o.op≠.defer c)(hr:(execOp a.eval o).run P w = .ok (.round l f tmps asg body) w') :
 step P (lone (b.atR a (.inRegion ops (i::rest)::k)) cs w) = .next (lone (Frame.round l f tmps asg body .normal) (b.atR a (.inRegion ops (i::rest)::k)::cs) w'):=by
 refine step_lone_go ?_;rw [stepGR_op ho hw,Oper.semAt_eq _ _ _ hd];simp [stepG.apply,hr,Frame.atR]
theorem TF (ho:ops[i]? = some o)(hw:Region.wanted o (yielded ops a.tmps)=false) :
 step P (lone (b.atR a (.inRegion ops (i::rest)::k)) cs w) = .next (lone (b.atR (a.put o.dst undef) (.inRegion ops rest::k)) cs w):=by
 have:=stepR_op_skip (P:=P) (b:=b) (a:=a) (k:=k) (cs:=cs) (w:=w) (ops:=ops) (i:=i) (rest:=rest) (by simp [ho,hw]);rw [ho] at this;exact this
end
section
variable {P:Program}{w0:World}{fz0:Nat→Prop}{B:Nat}{m m':Mem}{w w':World}{las:Las}{h h':List Ob}{σ:St}{a:Act}
theorem VRel.ev {L L':Nat→Nat→Prop}(he:Ev m h w m' h' w')(hL:∀l la,L l la→L' l la){v:AV}{c:Value}(hv:VRel w m.fz (RefR w m h L) v c):VRel w' m'.fz (RefR w' m' h' L') v c :=
 hv.mono he.fk he.fz (fun v c hr=>RefR.mono0 ⟨he.cel,he.map⟩ he.st hL hr)
theorem TR.ev {L L':Nat→Nat→Prop}(he:Ev m h w m' h' w')(hL:∀l la,L l la→L' l la){t:List AV}{ts:Array Value}(ht:TR w m h L t ts):TR w' m' h' L' t ts :=
 ⟨ht.size,fun i v c hv hc=>(ht.rel i v c hv hc).ev he hL⟩
theorem TR.put {L:Nat→Nat→Prop}{t:List AV}{ts:Array Value}(ht:TR w m h L t ts){v:AV}{c:Value}(hv:VRel w m.fz (RefR w m h L) v c)(d:Nat):TR w m h L (t.set d v) (ts.setIfInBounds d c):=by
 refine ⟨by simp [ht.size],fun i x y hx hy=>?_⟩;by_cases e:d=i
 ·subst e;have hd:d<t.length:=by
   have:=List.lt_of_some hx;simpa using this
  rw [List.getElem?_set_self hd] at hx;rw [Array.getElem?_setIfInBounds_self,if_pos (by rw [ht.size];exact hd)] at hy;cases hx;cases hy;exact hv
 ·rw [List.getElem?_set_ne e] at hx;rw [Array.getElem?_setIfInBounds_ne e] at hy;exact ht.rel i x y hx hy
theorem TR.putO {L:Nat→Nat→Prop}(ht:TR w m σ.h L σ.t a.tmps){v:AV}{c:Value}(hv:VRel w m.fz (RefR w m σ.h L) v c)(d:Option Nat):TR w m (σ.put d v).h L (σ.put d v).t (a.put d c).tmps:=by
 cases d with
 | none=>exact ht
 | some d=>exact ht.put hv d
theorem Ae4 (σ:St)(d:Option Nat)(v:AV):(σ.put d v).h=σ.h:=by cases d<;>rfl
theorem Ai2 (σ:St)(d:Option Nat)(v:AV):(σ.put d v).lp=σ.lp:=by cases d<;>rfl
theorem Act.put_defs (a:Act)(d:Option Nat)(v:Value):(a.put d v).defers=a.defers:=by cases d<;>rfl
theorem Sim.put (hs:Sim P w0 fz0 B m las σ a w){v:AV}{c:Value}(hv:VRel w m.fz (RefR w m σ.h (Lof las)) v c)(d:Option Nat):Sim P w0 fz0 B m las (σ.put d v) (a.put d c) w:=by
 refine ⟨hs.tr.putO hv d,by rw [Ae4];exact hs.rel,by rw [Ae4,Ai2];exact hs.lps,by rw [Act.put_defs];exact hs.dfs,hs.bs⟩
theorem Vg {R:AV→Value→Prop}{fz:Nat→Prop}:VRel w fz R (.tup []) undef:=.base _ _ (.tup _ _ rfl (fun j c v h=>by simp at h))
theorem RU {L:Nat→Nat→Prop}(ht:TR w m σ.h L σ.t a.tmps){ops:Array Oper}{o:Oper}{g:Option (Nat×Bool)}(hg:Afy ops o.guard=some g){b:Bool}(hw:wantedO g σ=some b):Region.wanted o (yielded ops a.tmps)=b:=by
 unfold Region.wanted;cases hgo:o.guard with
 | none=>simp [Afy,hgo] at hg;subst hg;simp [wantedO] at hw;simp [hw]
 | some jw =>
   obtain ⟨j,want⟩:=jw;simp only [Afy,hgo] at hg;cases hd:(ops[j]?).bind (·.dst) with
   | none=>simp [hd] at hg
   | some t =>
     simp [hd] at hg;subst hg;simp only [wantedO] at hw;cases ht1:σ.t[t]? with
     | none=>simp [ht1] at hw
     | some x =>
       have hlt:t<a.tmps.size:=by rw [ht.size];exact List.lt_of_some ht1
       have hr:=ht.rel t x _ ht1 (Array.getElem?_eq_getElem hlt);simp only [yielded,hd,Option.bind_some,Array.getElem?_eq_getElem hlt];simp only [ht1] at hw;split at hw
       ·rename_i b0 e;cases e;rw [hr.inv_bool];simp at hw ⊢;exact hw
       ·rename_i e;cases e;simp at hw;subst hw;generalize a.tmps[t]=c0 at hr ⊢;have:∃vs:Array Value,c0 = .tuple vs:=by
         cases hr with
         | base _ _ h=>cases h;exact ⟨_,rfl⟩
         | tup _ _=>exact ⟨_,rfl⟩
         | ref _ _ h=>cases h
        obtain ⟨vs,rfl⟩:=this;simp
       ·cases hw
theorem Lps.ev {lp:List Lp}(hl:Lps P w0 m las h w lp)(hk:WKeep w w')(hs:HStep m m' h h')(hf:FKeep w w' m.fz)(hz:∀b,m.fz b→m'.fz b):Lps P w0 m' las h' w' lp:=by
 refine ⟨hl.len,hl.nd,fun l la top x h1 h2=>?_⟩;obtain ⟨g1,g0,r,g2,g3⟩:=hl.ok l la top x h1 h2;exact ⟨g1,Nat.le_trans g0 hs.len,r,hk.2.2.1 _ _ g2 rfl,⟨g3.asg,g3.ps,g3.tr.ev ((Ev.of_keep hs hk hf hz).cut top) (fun _ _ h=>h),g3.st,g3.pe,g3.pn⟩⟩
theorem Dfs.keep {ds:List Deferred}(hd:Dfs B w ds)(hk:∀(b:Nat) (ds:Option (List Deferred)),w.heap[b]? = some (.deferred ds)→w'.heap[b]? = some (.deferred ds)):Dfs B w' ds:=by
 obtain ⟨Ds,h1,h2,h3⟩:=hd;exact ⟨Ds,h1,h2,fun D hD=>⟨(h3 D hD).1,hk _ _ (h3 D hD).2⟩⟩
theorem MC {sm:List Nat}{o:Oper}{i:Ins}(h:BY P sm o=some i):∀c,o.op≠.defer c:=by
 intro c hc;simp [BY,hc] at h
theorem AfS (hs:Sim P w0 fz0 B m las σ a w){sm:List Nat}{o:Oper}{i:Ins}{b:Nat}{v:AV}{h':List Ob}(hc:BY P sm o=some i)(hx:ax b i σ=some (v,h')) :
 ∃(c:Value) (w':World) (m':Mem),(∀(fr:Frame) (ops:Array Oper) (j:Nat) (rest:List Nat) (k:List Item) (cs:List Frame),ops[j]? = some o→Region.wanted o (yielded ops a.tmps)=true →
    Steps P (lone (fr.atR a (.inRegion ops (j::rest)::k)) cs w) (lone (fr.atR (a.put o.dst c) (.inRegion ops rest::k)) cs w')) ∧
  Sim P w0 fz0 B m' las { σ with h:=h' } a w'∧Ev m σ.h w m' h' w'∧h'.length=σ.h.length∧VRel w' m'.fz (RefR w' m' h' (Lof las)) v c:=by
 obtain ⟨c,w',m',hrun,hr,hst,hk,hf,hz,hl,hv⟩:=Afc hs.tr hs.rel hc hx;have hev:=Ev.of_keep hst hk hf hz;refine ⟨c,w',m',fun fr ops j rest k cs ho hw=>?_,⟨hs.tr.ev hev (fun _ _ h=>h),hr,hs.lps.ev hk hst hf hz,hs.dfs.keep hev.dfr,hs.bs.1,Nat.le_trans hs.bs.2 hev.sz⟩,hev,hl,hv⟩;rcases hrun with hrun|⟨hrun,rfl⟩
 ·exact .one (ZP ho hw (MC hc) hrun)
 ·exact .one (AaB ho hw (MC hc) hrun)
end
end Go.Mw
namespace Go.Mw
open Go.RowKit
section
variable {P:Program}{w0:World}{fz0:Nat→Prop}{m m':Mem}{w w':World}{las:Las}{h h':List Ob}{σ:St}{a:Act}
theorem S6 {w:World}{m:Mem}{r:Nat}{p:Path}{nd:AV}(hn:NodeF w m r p nd)(hi:isNode nd=true){la:Nat}{o:Obj}(ho:w.heap[la]? = some o)(hr:Ahv o=true):(m.blk r p).1≠la:=by
 intro e;cases nd<;>cases hi
 ·obtain ⟨_,arr,ty,h1,_⟩:=hn;rw [e,ho] at h1;cases h1;cases hr
 ·obtain ⟨ents,clock,h1,_⟩:=hn;rw [e,ho] at h1;cases h1;cases hr
theorem Rel.putRec (hr:Rel w0 fz0 m h w){la:Nat}{o o':Obj}(ho:w.heap[la]? = some o)(hrec:Ahv o=true)(hla:w0.heap.size≤la):Rel w0 fz0 m h (w.putObj la o'):=by
 have hoth:∀k,k≠la→(w.putObj la o').heap[k]? = w.heap[k]? := fun k hk=>World.putObj_heap_other hk;refine hr.keep rfl (hr.below.trans ⟨rfl,rfl,rfl,by simp,fun k hk=>hoth k (by omega)⟩) (by simp) (fun r p nd hn hi=>hoth _ (S6 (hr.nodes r p nd hn) hi ho hrec)) (fun r p nd hn hi=>hr.lo r p nd hn hi) ⟨fun b arr ty hb=>?_,fun b en ck hb=>?_⟩ ?_ (fun _ h=>h)
  (fun b hb=>by have:=hr.fzlt b hb;simpa using this) hr.fzin hr.fzge
 ·have hne:b≠la:=fun e=>by subst e;rw [ho] at hb;cases hb;cases hrec
  exact ⟨arr,by rw [hoth b hne];exact hb,rfl⟩
 ·have hne:b≠la:=fun e=>by subst e;rw [ho] at hb;cases hb;cases hrec
  exact ⟨en,ck,by rw [hoth b hne];exact hb,fun i e he=>⟨e,he,rfl⟩⟩
 ·intro b oo v hb hc;by_cases e:b=la
  ·subst e;exfalso;unfold World.cell? at hc;simp only [ho] at hc;cases o<;>first|(exact absurd hc (by intro hc;cases hc))|cases hrec
  ·exact (World.cell?_of_block (a:=⟨b,oo,none⟩) (hoth b e)).trans hc
theorem Nf {la:Nat}{r r':Loop}(ho:w.heap[la]? = some (.loop r)):Ev m h w m h (w.putObj la (.loop r')):=by
 have hoth:∀k,k≠la→(w.putObj la (.loop r')).heap[k]? = w.heap[k]? := fun k hk=>World.putObj_heap_other hk;refine ⟨HStep.refl m h,fun b arr ty hb=>?_,fun b en ck hb=>?_,fun b oo v hb hc=>?_,fun _ h=>h,fun b ds hb=>?_,by simp⟩
 ·have hne:b≠la:=fun e=>by subst e;rw [ho] at hb;cases hb
  exact ⟨arr,by rw [hoth b hne];exact hb,rfl⟩
 ·have hne:b≠la:=fun e=>by subst e;rw [ho] at hb;cases hb
  exact ⟨en,ck,by rw [hoth b hne];exact hb,fun i e he=>⟨e,he,rfl⟩⟩
 ·by_cases e:b=la
  ·subst e;exfalso;unfold World.cell? at hc;simp [ho] at hc
  ·exact (World.cell?_of_block (a:=⟨b,oo,none⟩) (hoth b e)).trans hc
 ·have hne:b≠la:=fun e=>by subst e;rw [ho] at hb;cases hb
  rw [hoth b hne];exact hb
def Ajo (m:Mem)(h:List Ob)(X:Nat→Prop)(b:Nat):Prop:=∃r p nd,X r∧nodeAt h r p=some nd∧isNode nd=true∧(m.blk r p).1=b
def Mem.freeze (m:Mem)(h:List Ob)(X:Nat→Prop):Mem:={ blk:=m.blk,fz:=fun b=>m.fz b∨Ajo m h X b }
theorem Rel.freeze (hr:Rel w0 fz0 m h w)(X:Nat→Prop)(ho:∀r p nd,nodeAt h' r p=some nd→isNode nd=true→nodeAt h r p=some nd∧¬X r):Rel w0 fz0 (m.freeze h X) h' w:=by
 have hc:=hr.congr (h':=h') (fun r p nd hn hi=>(ho r p nd hn hi).1);refine hc.keep rfl hr.below (Nat.le_refl _) (fun _ _ _ _ _=>rfl) (fun r p nd hn hi=>?_) (WKeep.refl w).zero (FKeep.refl w _) (fun b hb=>.inl hb) ?_ (fun b hb=>.inl (hr.fzin b hb)) ?_
 ·obtain ⟨h1,h2⟩:=ho r p nd hn hi;have:=hr.lo r p nd h1 hi;refine ⟨this.1,fun hf=>?_⟩;rcases hf with hf|⟨r2,p2,nd2,hx,hn2,hi2,e⟩
  ·exact this.2 hf
  ·obtain ⟨e1,_⟩:=hr.inj r2 p2 nd2 r p nd hn2 hi2 h1 hi e;subst e1;exact h2 hx
 ·rintro b (hb|⟨r2,p2,nd2,hx,hn2,hi2,rfl⟩)
  ·exact hr.fzlt b hb
  ·exact (hr.nodes r2 p2 nd2 hn2).lt hi2
 ·rintro b (hb|⟨r2,p2,nd2,hx,hn2,hi2,rfl⟩)
  ·exact hr.fzge b hb
  ·exact .inr (hr.lo r2 p2 nd2 hn2 hi2).1
theorem XR {c:AV}(h:c.one=true):(frz c).one=true:=by cases c<;>first|exact h|rfl|(simp [frz];exact h)
theorem Hm:∀(xs:List AV),AiV xs=xs.map frz:=by
 intro xs;induction xs with
 | nil=>rfl
 | cons x xs ih=>simp [AiV,ih]
theorem Ux (e:AV):(frz e).cells=e.cells.map frz:=by
 cases e<;>simp [frz,AV.cells,Hm]
theorem AfB {fz:Nat→Prop}{c:AV}{v:Value}(h:VRel0 w fz c v):VRel0 w fz (frz c) v:=by
 induction h with
 | undef c=>exact .undef c
 | bool b=>exact .bool b
 | int k n=>exact .int k n
 | str s=>exact .str s
 | nilp=>exact .nilp
 | nils=>exact .lst0 none 0 (fun _=>rfl)
 | nilm=>exact .nilm
 | nilf=>exact .nilf
 | emp A=>exact .lst0 A 0 (fun _=>rfl)
 | ne A cap=>exact .lst0 (some A) cap (fun h=>by cases h)
 | lstn=>exact .lstn
 | lst xs A cap es vs hcap hfz hes hc hr ih=>exact .lst xs A cap es vs hcap hfz hes hc hr
 | pfro cs A vs hfz hs hc hr ih=>exact .pfro cs A vs hfz hs hc hr
 | fn f cs vs hl hr ih =>
   simp only [frz];refine .fn f _ vs (by simp [Hm,hl]) (fun j c v hc hv=>?_);simp only [Hm,List.getElem?_map] at hc;cases hx:cs[j]? with
   | none=>simp [hx] at hc
   | some x=>simp [hx] at hc;subst hc;exact ih j x v hx hv
 | agg cs vs hl h1 hr ih =>
   simp only [frz];refine .agg _ vs (by simp [Hm,hl]) (fun j c v hc hv=>?_) (fun j c v hc hv=>?_) <;>
   ·simp only [Hm,List.getElem?_map] at hc;cases hx:cs[j]? with
    | none=>simp [hx] at hc
    | some x =>
      simp [hx] at hc;subst hc
      first
       | exact ⟨XR (h1 j x v hx hv).1,(h1 j x v hx hv).2⟩
       | exact ih j x v hx hv
 | tup cs vs hl hr ih=>exact .tup cs vs hl hr
end
end Go.Mw
namespace Go.Mw
open Go.RowKit
section
variable {P:Program}{w0:World}{fz0:Nat→Prop}{m m':Mem}{w w':World}{las:Las}{h h':List Ob}{σ:St}{a:Act}
theorem Agz {e c:AV}{j:Nat}(h:e.cells[j]? = some c):SizeOf.sizeOf c≤SizeOf.sizeOf e:=by
 cases e<;>simp only [AV.cells] at h
 case agg cs =>
  have:=List.sizeOf_lt_of_mem (List.mem_of_getElem? h);simp only [AV.agg.sizeOf_spec];omega
 all_goals (rcases j with _|j<;>simp at h;subst h;exact Nat.le_refl _)
theorem Pp {es:Nat}{xs:List AV}{r:Nat}{q:Path}(hn:nodeAt h r q=some (.own es xs)){i j:Nat}{e c:AV}(hi:xs[i]? = some e)(hj:e.cells[j]? = some c):nodeAt h r (q++[(i,j)])=some c :=
 Ee hn ((AF ..).2 ⟨es,xs,e,c,rfl,hi,hj,nav_nil _⟩)
theorem YI {b o:Nat}{arr:Array Value}{ty:TypeId}(hb:w.heap[b]? = some (.cells arr ty (0,0))):w.cell? ⟨b,o,none⟩=arr[o]? := by
 simp [World.cell?,hb]
theorem AbX (hr:Rel w0 fz0 m h w){X:Nat→Prop}{es:Nat}{xs:List AV}{r:Nat}{q:Path}(hx:X r)(hn:nodeAt h r q=some (.own es xs))
 (ih:∀(i j:Nat) (e c:AV) (v:Value),xs[i]? = some e→e.cells[j]? = some c→CellR w m r (q++[(i,j)]) c v→VRel0 w (m.freeze h X).fz (frz c) v)
 {off len cap:Nat}{A:Addr}(hol:off+len≤xs.length) (hlc:len≤cap) (hA:cap=0∨A=⟨(m.blk r q).1,(m.blk r q).2+off*es,none⟩) :
 VRel0 w (m.freeze h X).fz (.lst (((xs.drop off).take len).map frz)) (.slice (some A) len cap):=by
 obtain ⟨hpos,arr,ty,ha,hcells⟩:=hr.nodes r q _ hn;have hll:(((xs.drop off).take len).map frz).length=len:=by simp;omega
 have hget:∀(i:Nat) (e:AV),(((xs.drop off).take len).map frz)[i]? = some e→i<len∧∃e0,xs[off+i]? = some e0∧e=frz e0:=by
  intro i e hi;have hlt:=List.lt_of_some hi;rw [hll] at hlt;rw [List.getElem?_map,List.getElem?_take_of_lt hlt,List.getElem?_drop] at hi;cases he:xs[off+i]? with
  | none=>simp [he] at hi
  | some e0=>simp [he] at hi;exact ⟨hlt,e0,rfl,hi.symm⟩
 have key:∀(i:Nat) (e:AV) (j:Nat) (c:AV),(((xs.drop off).take len).map frz)[i]? = some e→e.cells[j]? = some c →
  A=⟨(m.blk r q).1,(m.blk r q).2+off*es,none⟩∧j<es∧∃c0 v,c=frz c0∧c0.one=true∧arr[(m.blk r q).2+((off+i)*es+j)]? = some v∧v.oneCell'=true∧VRel0 w (m.freeze h X).fz c v:=by
  intro i e j c hi hj;obtain ⟨hlt,e0,he0,rfl⟩:=hget i e hi;rw [Ux,List.getElem?_map] at hj;cases hc:e0.cells[j]? with
  | none=>simp [hc] at hj
  | some c0 =>
    simp [hc] at hj;subst hj;obtain ⟨k1,k2⟩:=hcells _ _ he0;obtain ⟨k3,v,k4,k5,k6⟩:=k2 j c0 hc;refine ⟨hA.resolve_left (by omega),by rw [←k1];exact List.lt_of_some hc,c0,v,rfl,k3,k4,k5,ih _ _ _ _ _ he0 hc k6⟩
 have:=VRel0.lst (w:=w) (fz:=(m.freeze h X).fz) (((xs.drop off).take len).map frz) A cap es (fun i j=>(arr[(m.blk r q).2+((off+i)*es+j)]?).getD undef) (by rw [hll];exact hlc) (fun h0=>?_) (fun i e hi=>?_) (fun i e j c hi hj=>?_) (fun i e j c hi hj=>?_)
 ·rw [hll] at this;exact this
 ·rw [hll] at h0;have:=hA.resolve_left (by omega);rw [this];exact ⟨.inr ⟨r,q,_,hx,hn,rfl,rfl⟩,rfl⟩
 ·obtain ⟨hlt,e0,he0,rfl⟩:=hget i e hi;rw [Ux,List.length_map];exact (hcells _ _ he0).1
 ·obtain ⟨eA,hjl,c0,v,rfl,k3,k4,k5,k6⟩:=key i e j c hi hj;refine ⟨XR k3,by simp only [k4,Option.getD_some];exact k5,?_⟩;rw [eA];simp only [YI ha,k4,Option.getD_some];rw [←k4];congr 1;rw [Nat.add_mul];omega
 ·obtain ⟨eA,hjl,c0,v,rfl,k3,k4,k5,k6⟩:=key i e j c hi hj;simp only [k4,Option.getD_some];exact k6
theorem Acz (hr:Rel w0 fz0 m h w){X:Nat→Prop}:∀(n:Nat) (c:AV),SizeOf.sizeOf c≤n→∀(r:Nat) (q:Path) (v:Value),X r→nodeAt h r q=some c→CellR w m r q c v→VRel0 w (m.freeze h X).fz (frz c) v:=by
 intro n;induction n with
 | zero=>intro c hc;exact absurd hc (by cases c<;>simp)
 | succ n ih =>
   intro c hc r q v hx hn hv;have base:VRel0 w m.fz c v→VRel0 w (m.freeze h X).fz (frz c) v:=fun h0=>AfB (h0.mono (fun _ _ _ _ h=>h) (fun b hb=>.inl hb));cases c
   case own es xs =>
    obtain ⟨A,cap,rfl,hlc,hA⟩:=hv;have:=AbX hr (off:=0) (len:=xs.length) (A:=A) hx hn (fun i j e c v hi hj hcr=>ih c (by
     have h1:=List.sizeOf_lt_of_mem (List.mem_of_getElem? hi);have h2:=Agz hj;simp only [AV.own.sizeOf_spec] at hc;omega) r _ v hx (Pp hn hi hj) hcr) (by omega) hlc (hA.imp id (·.1))
    simpa [frz,Hm] using this
   case ownm es=>exact .undef _
   case gone=>exact .undef _
   all_goals exact base hv
theorem Aeu (hr:Rel w0 fz0 m h w){X:Nat→Prop}{es:Nat}{xs:List AV}{r:Nat}{q:Path}(hx:X r)(hn:nodeAt h r q=some (.own es xs)){i j:Nat}{e:AV}(hi:xs[i]? = some e) :
 VRel0 w (m.freeze h X).fz (.pfro ((e.cells.drop j).map frz)) (.pointer (some ⟨(m.blk r q).1,(m.blk r q).2+(i*es+j),none⟩)):=by
 obtain ⟨hpos,arr,ty,ha,hcells⟩:=hr.nodes r q _ hn;obtain ⟨k1,k2⟩:=hcells i e hi;have key:∀(t:Nat) (c:AV),((e.cells.drop j).map frz)[t]? = some c→∃c0 v,c=frz c0∧c0.one=true∧arr[(m.blk r q).2+(i*es+(j+t))]? = some v∧v.oneCell'=true∧VRel0 w (m.freeze h X).fz c v:=by
  intro t c hc;rw [List.getElem?_map,List.getElem?_drop] at hc;cases hc0:e.cells[j+t]? with
  | none=>simp [hc0] at hc
  | some c0 =>
    simp [hc0] at hc;subst hc;obtain ⟨k3,v,k4,k5,k6⟩:=k2 _ c0 hc0;exact ⟨c0,v,rfl,k3,k4,k5,Acz hr _ c0 (Nat.le_refl _) r _ v hx (Pp hn hi hc0) k6⟩
 refine .pfro _ _ (fun t=>(arr[(m.blk r q).2+(i*es+(j+t))]?).getD undef) (.inr ⟨r,q,_,hx,hn,rfl,rfl⟩) rfl (fun t c hc=>?_) (fun t c hc=>?_)
 ·obtain ⟨c0,v,rfl,k3,k4,k5,k6⟩:=key t c hc;refine ⟨XR k3,by simp only [k4,Option.getD_some];exact k5,?_⟩;simp only [YI ha,k4,Option.getD_some];rw [←k4];congr 1;omega
 ·obtain ⟨c0,v,rfl,k3,k4,k5,k6⟩:=key t c hc;simp only [k4,Option.getD_some];exact k6
theorem YF (hr:Rel w0 fz0 m h w){X:Nat→Prop}{L:Nat→Nat→Prop}{v:AV}{c:Value}(hi:v.isRef=true)(hx:∀r∈rootsOf v,X r)(hv:RefR w m h L v c):VRel0 w (m.freeze h X).fz (AaI h v) c:=by
 cases v<;>simp only [AV.isRef,Bool.false_eq_true] at hi
 case sl r st p ss off len =>
  simp only [AaI];split
  ·rename_i es xs hn;split
   ·rename_i hol;obtain ⟨o,_,_,_,g4⟩:=hv;obtain ⟨_,A,cap,rfl,hlc,hA⟩:=g4 _ _ hn;exact AbX hr (hx r (by simp [rootsOf])) (CK hn) (fun i j e c v hi hj hcr=>Acz hr _ c (Nat.le_refl _) r _ v (hx r (by simp [rootsOf])) (Pp (CK hn) hi hj) hcr) hol hlc (hA.imp id (·.1))
   ·exact .undef _
  ·exact .undef _
 case ptr r st p ss i j =>
  simp only [AaI];split
  ·rename_i es xs hn;split
   ·rename_i e he;obtain ⟨o,_,_,_,g4⟩:=hv;rw [g4 _ _ hn];exact Aeu hr (hx r (by simp [rootsOf])) (CK hn) he
   ·exact .undef _
  ·exact .undef _
 case mp=>exact .undef _
 case ent=>exact .undef _
 case yld=>exact .undef _
theorem D7 {xs:List AV}{x:AV}{r:Nat}(hx:x∈xs)(hr:r∈rootsOf x):r∈rootsL xs:=by
 induction xs with
 | nil=>cases hx
 | cons y ys ih =>
   simp only [rootsL,List.mem_append];rcases List.mem_cons.1 hx with rfl|h
   ·exact .inl hr
   ·exact .inr (ih h)
theorem treeBL_map (B:Nat)(h:List Ob):∀(xs:List AV),treeBL B h xs=xs.map (treeB B h):=by
 intro xs;induction xs with
 | nil=>rfl
 | cons x xs ih=>simp [treeBL,ih]
theorem RT {fz:Nat→Prop}{B:Nat}{h:List Ob}{c:AV}{v:Value}(hv:VRel0 w fz c v):VRel0 w fz (treeB B h c) v:=by
 induction hv with
 | undef c=>exact .undef c
 | bool b=>exact .bool b
 | int k n=>exact .int k n
 | str s=>exact .str s
 | nilp=>exact .nilp
 | nils=>exact .lst0 none 0 (fun _=>rfl)
 | nilm=>exact .nilm
 | nilf=>exact .nilf
 | emp A=>exact .lst0 A 0 (fun _=>rfl)
 | ne A cap=>exact .lst0 (some A) cap (fun h=>by cases h)
 | lstn=>exact .lstn
 | lst xs A cap es vs hcap hfz hes hc hr ih=>exact .lst xs A cap es vs hcap hfz hes hc hr
 | pfro cs A vs hfz hs hc hr ih=>exact .pfro cs A vs hfz hs hc hr
 | fn f cs vs hl hr ih =>
   simp only [treeB];refine .fn f _ vs (by simp [treeBL_map,hl]) (fun j c v hc hv=>?_);simp only [treeBL_map,List.getElem?_map] at hc;cases hx:cs[j]? with
   | none=>simp [hx] at hc
   | some x=>simp [hx] at hc;subst hc;exact ih j x v hx hv
 | agg cs vs hl h1 hr ih =>
   simp only [treeB];have hone:∀x:AV,x.one=true→(treeB B h x).one=true:=by
    intro x hx;cases x<;>first|exact hx|rfl|(simp only [treeB];split<;>first|rfl|(simp only [AaI];split<;>first|rfl|(split<;>rfl)))
   refine .agg _ vs (by simp [treeBL_map,hl]) (fun j c v hc hv=>?_) (fun j c v hc hv=>?_) <;>
   ·simp only [treeBL_map,List.getElem?_map] at hc;cases hx:cs[j]? with
    | none=>simp [hx] at hc
    | some x =>
      simp [hx] at hc;subst hc
      first
       | exact ⟨hone x (h1 j x v hx hv).1,(h1 j x v hx hv).2⟩
       | exact ih j x v hx hv
 | tup cs vs hl hr ih =>
   simp only [treeB];refine .tup _ vs (by simp [treeBL_map,hl]) (fun j c v hc hv=>?_);simp only [treeBL_map,List.getElem?_map] at hc;cases hx:cs[j]? with
   | none=>simp [hx] at hc
   | some x=>simp [hx] at hc;subst hc;exact ih j x v hx hv
theorem Aco {B:Nat}{h:List Ob}{x:AV}(hx:x.one=true):(treeB B h x).one=true:=by
 cases x<;>first|exact hx|rfl|(simp only [treeB];split<;>first|rfl|(simp only [AaI];split<;>first|rfl|(split<;>rfl)))
theorem UT (hr:Rel w0 fz0 m h w){X:Nat→Prop}{L:Nat→Nat→Prop}{B:Nat}{R':AV→Value→Prop}
 (hR:∀v c,v.isRef=true→(∀r∈rootsOf v,r<B)→(∃r,r∈rootsOf v)→RefR w m h L v c→R' v c) {v:AV}{c:Value}(hv:VRel w m.fz (RefR w m h L) v c) (hx:∀r∈rootsOf v,r<B∨X r):VRel w (m.freeze h X).fz R' (treeB B h v) c:=by
 induction hv with
 | base v c h0=>exact .base _ _ (RT (h0.mono (fun _ _ _ _ h=>h) (fun b hb=>.inl hb)))
 | fn f cs vs hl hr' ih =>
   simp only [treeB];refine .fn f _ vs (by simp [treeBL_map,hl]) (fun j c v hc hv=>?_);simp only [treeBL_map,List.getElem?_map] at hc;cases hx':cs[j]? with
   | none=>simp [hx'] at hc
   | some x=>simp [hx'] at hc;subst hc;exact ih j x v hx' hv (fun r hr=>hx r (by simp only [rootsOf];exact D7 (List.mem_of_getElem? hx') hr))
 | agg cs vs hl h1 hr' ih =>
   simp only [treeB];refine .agg _ vs (by simp [treeBL_map,hl]) (fun j c v hc hv=>?_) (fun j c v hc hv=>?_) <;>
   ·simp only [treeBL_map,List.getElem?_map] at hc;cases hx':cs[j]? with
    | none=>simp [hx'] at hc
    | some x =>
      simp [hx'] at hc;subst hc
      first
       | exact ⟨Aco (h1 j x v hx' hv).1,(h1 j x v hx' hv).2⟩
       | exact ih j x v hx' hv (fun r hr=>hx r (by simp only [rootsOf];exact D7 (List.mem_of_getElem? hx') hr))
 | tup cs vs hl hr' ih =>
   simp only [treeB];refine .tup _ vs (by simp [treeBL_map,hl]) (fun j c v hc hv=>?_);simp only [treeBL_map,List.getElem?_map] at hc;cases hx':cs[j]? with
   | none=>simp [hx'] at hc
   | some x=>simp [hx'] at hc;subst hc;exact ih j x v hx' hv (fun r hr=>hx r (by simp only [rootsOf];exact D7 (List.mem_of_getElem? hx') hr))
 | ref v c hi hv =>
   cases v<;>simp only [AV.isRef,Bool.false_eq_true] at hi
   case sl r st p ss off len =>
    simp only [treeB];split
    ·rename_i hlt;exact .ref _ _ rfl (hR _ _ rfl (by simp [rootsOf,hlt]) ⟨r,by simp [rootsOf]⟩ hv)
    ·rename_i hge;exact .base _ _ (YF hr rfl (fun q hq=>(hx q hq).resolve_left (by simp [rootsOf] at hq;subst hq;exact hge)) hv)
   case ptr r st p ss i j =>
    simp only [treeB];split
    ·rename_i hlt;exact .ref _ _ rfl (hR _ _ rfl (by simp [rootsOf,hlt]) ⟨r,by simp [rootsOf]⟩ hv)
    ·rename_i hge;exact .base _ _ (YF hr rfl (fun q hq=>(hx q hq).resolve_left (by simp [rootsOf] at hq;subst hq;exact hge)) hv)
   case mp r st p ss =>
    simp only [treeB];split
    ·rename_i hlt;exact .ref _ _ rfl (hR _ _ rfl (by simp [rootsOf,hlt]) ⟨r,by simp [rootsOf]⟩ hv)
    ·exact .base _ _ (.undef _)
   case ent=>exact .base _ _ (.undef _)
   case yld=>exact .base _ _ (.undef _)
end
end Go.Mw
