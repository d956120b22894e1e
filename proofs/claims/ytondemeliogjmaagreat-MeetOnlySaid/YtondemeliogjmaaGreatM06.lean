/- Slice literals, append. -/
import Derived.Test.YtondemeliogjmaaGreatM05
import Derived.Laws.AppendOwn
set_option linter.unusedVariables false
set_option linter.unusedSimpArgs false
namespace Go.Mw
open Go.RowKit
section
variable {P:Program}{sm:List Nat}{o:Oper}{a:Act}{w0:World}{fz0:Nat→Prop}{m:Mem}{w:World}{L:Nat→Nat→Prop}{σ:St}{base:Nat}{i:Ins}{v:AV}{h':List Ob}
theorem Ya:∀ {ps:List (Nat×Operand)}{k:Nat}{xs:List Opd},Sl k ps=some xs →
 xs.length=ps.length∧∀(j:Nat) (i:Nat) (x:Operand) (y:Opd),ps[j]? = some (i,x)→xs[j]? = some y→i=k+j∧opd x=some y:=by
 intro ps;induction ps with
 | nil=>intro k xs h;simp [Sl] at h;subst h;exact ⟨rfl,fun j i x y h=>by simp at h⟩
 | cons p ps ih =>
   intro k xs h;obtain ⟨i,x⟩:=p;simp only [Sl] at h;split at h
   ·rename_i hik;subst hik;split at h
    ·rename_i y r h1 h2;cases h;obtain ⟨g1,g2⟩:=ih h2;refine ⟨by simp [g1],fun j i' x' y' hp hq=>?_⟩;cases j with
     | zero=>simp at hp hq;obtain ⟨rfl,rfl⟩:=hp;subst hq;exact ⟨rfl,h1⟩
     | succ j =>
       obtain ⟨e1,e2⟩:=g2 j i' x' y' (by simpa using hp) (by simpa using hq);exact ⟨by omega,e2⟩
    ·cases h
   ·cases h
theorem fill_all (sz:Nat):∀(us:List Value) (k:Nat) (X:Array Value),(∀u∈us,u.cells.size=sz)→k*sz+us.length*sz≤X.size →
 Instr.fill (fun i=>some (i*sz,sz)) X ((us.zipIdx k).map fun (u,i)=>(i,u))=some (X.toList.take (k*sz)++us.flatMap (fun u=>u.cells.toList)++X.toList.drop (k*sz+us.length*sz)).toArray:=by
 intro us;induction us with
 | nil=>intro k X _ _;simp [Instr.fill]
 | cons u us ih =>
   intro k X hu hl;have hus:=hu u (List.mem_cons_self ..);simp only [List.length_cons,Nat.add_mul,Nat.one_mul] at hl;simp only [List.zipIdx_cons,List.map_cons,Instr.fill];have hc:¬((decide (u.cells.size≠sz)||decide (k*sz+u.cells.size>X.size))=true):=by simp [hus];omega
   rw [if_neg hc];have hfold:=VE u.cells.toList (k*sz) 0 X (by simp [hus];omega);have heq:(u.cells.zipIdx.foldl (fun (cs:Array Value) (x:Value×Nat)=>cs.setIfInBounds (k*sz+x.2) x.1) X)=(X.toList.take (k*sz)++u.cells.toList++X.toList.drop (k*sz+sz)).toArray:=by
    apply Array.toList_inj.1;rw [←Array.foldl_toList,Array.toList_zipIdx,hfold];simp [hus]
   rw [heq,ih (k+1) _ (fun x hx=>hu x (List.mem_cons_of_mem _ hx)) (by simp [hus];rw [Nat.add_mul];omega)];congr 2;have l1:(List.take (k*sz) X.toList).length=k*sz:=by simp;omega
   have l2:(List.take (k*sz) X.toList++u.cells.toList).length=(k+1)*sz:=by simp [hus];rw [Nat.add_mul];omega
   simp only [List.flatMap_cons];have e1:List.take ((k+1)*sz) (List.take (k*sz) X.toList++u.cells.toList++List.drop (k*sz+sz) X.toList)=List.take (k*sz) X.toList++u.cells.toList:=by
    rw [←l2,List.take_left]
   have e2:List.drop ((k+1)*sz+us.length*sz) (List.take (k*sz) X.toList++u.cells.toList++List.drop (k*sz+sz) X.toList)=List.drop (k*sz+(u::us).length*sz) X.toList:=by
    have e3:(k+1)*sz+us.length*sz=(List.take (k*sz) X.toList++u.cells.toList).length+us.length*sz:=by rw [l2]
    rw [e3,List.drop_append,List.drop_of_length_le (by omega)];simp only [Nat.add_sub_cancel_left,List.nil_append,List.drop_drop,List.length_cons];congr 1;rw [Nat.add_mul];omega
   rw [e1,e2];simp
theorem Afn {sz:Nat}(hs:0<sz):∀(us:List Value),(∀u∈us,u.cells.size=sz)→∀(i j:Nat),j<sz→(us.flatMap (fun u=>u.cells.toList))[i*sz+j]? = (us[i]?).bind (·.cells[j]?):=by
 intro us;induction us with
 | nil=>intro _ i j _;simp
 | cons u us ih =>
   intro hu i j hj;have hus:=hu u (List.mem_cons_self ..);rw [List.flatMap_cons];cases i with
   | zero =>
     rw [List.getElem?_append_left (by simp [hus];omega)];simp
   | succ i =>
     have e:(i+1)*sz+j=u.cells.toList.length+(i*sz+j):=by simp [hus];rw [Nat.add_mul];omega
     rw [e,List.getElem?_append_right (by omega),Nat.add_sub_cancel_left,ih (fun x hx=>hu x (List.mem_cons_of_mem _ hx)) i j hj];simp
theorem AbT {sz:Nat}(hs:0<sz):∀(es:List AV),(∀e∈es,e.cells.length=sz)→∀(i j:Nat),j<sz→(es.flatMap AV.cells)[i*sz+j]? = (es[i]?).bind (·.cells[j]?):=by
 intro es;induction es with
 | nil=>intro _ i j _;simp
 | cons e es ih =>
   intro hu i j hj;have hus:=hu e (List.mem_cons_self ..);rw [List.flatMap_cons];cases i with
   | zero=>rw [List.getElem?_append_left (by omega)];simp
   | succ i =>
     have e1:(i+1)*sz+j=e.cells.length+(i*sz+j):=by rw [hus,Nat.add_mul];omega
     rw [e1,List.getElem?_append_right (by omega),Nat.add_sub_cancel_left,ih (fun x hx=>hu x (List.mem_cons_of_mem _ hx)) i j hj];simp
theorem AeD {sz:Nat}:∀(us:List Value),(∀u∈us,u.cells.size=sz)→(us.flatMap (fun u=>u.cells.toList)).length=us.length*sz:=by
 intro us;induction us with
 | nil=>intro _;simp
 | cons u us ih =>
   intro hu;rw [List.flatMap_cons,List.length_append,ih (fun x hx=>hu x (List.mem_cons_of_mem _ hx))];simp [hu u (List.mem_cons_self ..)];rw [Nat.add_mul];omega
theorem List.mem_get {α:Type}{l:List α}{x:α}(h:x∈l):∃i:Nat,l[i]? = some x:=by
 obtain ⟨k,hk,rfl⟩:=List.mem_iff_getElem.1 h;exact ⟨k,List.getElem?_eq_getElem hk⟩
theorem Rel.keep {m':Mem}{w' w1:World}{h:List Ob}{fz1:Nat→Prop}(hr:Rel w0 fz0 m h w)(hb:m.blk=m'.blk)(hB:Below w1.heap.size w1 w')(hsz:w.heap.size≤w'.heap.size)
 (hh:∀r p nd,nodeAt h r p=some nd→isNode nd=true→w'.heap[(m.blk r p).1]? = w.heap[(m.blk r p).1]?)
 (hlo:∀r p nd,nodeAt h r p=some nd→isNode nd=true→w1.heap.size≤(m.blk r p).1∧¬m'.fz (m.blk r p).1)
 (hk:PD w w') (hf:FKeep w w' m.fz) (hz:∀b,m.fz b→m'.fz b) (hlt:∀b,m'.fz b→b<w'.heap.size) (hin:∀b,fz1 b→m'.fz b) (hge:∀b,m'.fz b→fz1 b∨w1.heap.size≤b):Rel w1 fz1 m' h w':=by
 refine ⟨hB,hlt,hin,hge,fun r p nd hn=>?_,fun r p nd hn hi=>by rw [←hb];exact hlo r p nd hn hi,fun r p nd r2 p2 nd2 h1 i1 h2 i2 e=>hr.inj r p nd r2 p2 nd2 h1 i1 h2 i2 (by rw [hb];exact e)⟩;exact (hr.nodes r p nd hn).mono0 hk hf hz (by rw [hb]) (fun _ _ _ _ _ _ _ _ _ _=>by rw [hb]) (fun hi=>hh r p nd hn hi)
theorem Rel.alloc {h:List Ob}(hr:Rel w0 fz0 m h w)(ob:Obj):Rel w0 fz0 m h (w.alloc ob):=by
 have hk:=alloc_wkeep w ob;have hlt:∀k,k<w.heap.size→(w.alloc ob).heap[k]? = w.heap[k]? := fun k hk=>Below.heap_alloc _ _ _ hk;refine hr.keep rfl (hr.below.trans ⟨rfl,rfl,rfl,by rw [alloc_size];omega,fun k hk=>hlt k (Nat.lt_of_lt_of_le hk hr.below.size)⟩) (by rw [alloc_size];omega) (fun r p nd hn hi=>hlt _ ((hr.nodes r p nd hn).lt hi)) (fun r p nd hn hi=>hr.lo r p nd hn hi) hk.zero ?_ (fun _ h=>h)
  (fun b hb=>by rw [alloc_size];have:=hr.fzlt b hb;omega) hr.fzin hr.fzge
 intro b o v hb hc;exact (World.cell?_of_block (a:=⟨b,o,none⟩) (hlt b (hr.fzlt b hb))).trans hc
theorem Ajj (ht:TR w m σ.h L σ.t a.tmps)(hr:Rel w0 fz0 m σ.h w){t e:TypeId}{len n s:Nat}{ps:Array (Nat×Operand)}{xs:List Opd}{z:AV}(ho:o.op = .buildSlice t len ps)
 (hu:P.underlying t=some (.slice e)) (hn:szT P e=some n) (hp:Sl 0 ps.toList=some xs) (hz:KL P e=some z) (hzl:z.cells.length=n) (hmax:len*n≤1000)
 (hx:ax base (.bsl s n len xs) σ=some (v,h')):OpOk P o a w0 fz0 m σ.h w L v h':=by
 obtain ⟨d,zv,hi,hzv,hov⟩:=Eb hz;obtain ⟨z1,z2⟩:=EH (w:=w) (fz:=m.fz) hov;obtain ⟨p1,p2⟩:=Ya hp;simp only [ax] at hx;split at hx
 ·rename_i hc;obtain ⟨hlen,hpos⟩:=hc;by_cases hl00:len=0
  ·subst hl00;simp only [if_true,Option.some.injEq,Prod.mk.injEq] at hx;obtain ⟨rfl,rfl⟩:=hx;have hps0:ps.toList = []:=by
    apply List.eq_nil_of_length_eq_zero;omega
   have hps1:ps = #[]:=by apply Array.ext';simpa using hps0
   refine ⟨.slice (some ⟨w.heap.size,0,none⟩) 0 0,w.alloc (.cells #[] e),m,.inl ?_,hr.alloc _,HStep.refl m _,alloc_wkeep _ _,?_,fun _ h=>h,rfl,.base _ _ (.emp _)⟩
   ·simp only [execOp,ho,Instr.buildSlice];simp only [Sem.run_bind,run_underlying hu,Result.andThen,Ba hn,Sem.run_ite,Sem.run_pure,hps1];simp [newRow,Instr.fill];exact congrArg (fun z=>w.alloc (Obj.cells z e)) (Array.ext' (by simp))
   ·intro b off u hb hc;exact (World.cell?_of_block (a:=⟨b,off,none⟩) (Below.heap_alloc w _ b (hr.fzlt b hb))).trans hc
  rw [if_neg hl00] at hx;cases htk:takeVals σ.h n (σ.gets xs) with
  | none=>simp [htk] at hx
  | some vh =>
    obtain ⟨vs',hh1⟩:=vh;simp only [htk] at hx;cases hnew:newOb hh1 (base+s) (.own n vs') with
    | none=>simp [hnew] at hx
    | some hs =>
      obtain ⟨hf,st⟩:=hs;simp only [hnew,Option.some.injEq,Prod.mk.injEq] at hx;obtain ⟨rfl,rfl⟩:=hx;let us:List Value:=ps.toList.map fun (_,x)=>a.eval x;have husl:us.length=len:=by simp only [us,List.length_map];omega
      obtain ⟨m1,hfz,hr1,hl1,hst1,hbk1,hvl,hes,hus,hall⟩:=takeVals_sound (w0:=w0) (fz0:=fz0) (L:=L) n (σ.gets xs) us vs' σ.h hh1 [] m (by simpa using hr)
       (fun j d u hd hu=>by
         simp only [St.gets,List.getElem?_map,Option.map_eq_some_iff] at hd;simp only [us,List.getElem?_map,Option.map_eq_some_iff] at hu;obtain ⟨y,hy,rfl⟩:=hd;obtain ⟨⟨i,x⟩,hx,rfl⟩:=hu;exact ht.get (p2 j i x y hx hy).2) (by simp [St.gets,us,p1]) htk
      simp only [List.append_nil,List.length_nil,Nat.add_zero] at hr1 hbk1 hall;have hvlen:vs'.length=len:=by rw [hvl];simp [St.gets,hlen]
      have husz:∀u∈us,u.cells.size=n:=fun u hu=>by obtain ⟨k,hk⟩:=List.mem_get hu;exact hus k u hk
      have hesz:∀e∈vs',e.cells.length=n:=fun u hu=>by obtain ⟨k,hk⟩:=List.mem_get hu;exact hes k u hk
      let U:Array Value:=(us.flatMap fun u=>u.cells.toList).toArray;have hUl:U.size=len*n:=by simp only [U,List.size_toArray];rw [AeD us husz,husl]
      have hUget:∀i j,j<n→U[i*n+j]? = (us[i]?).bind (·.cells[j]?):=fun i j hj=>by
       rw [←Array.getElem?_toList];exact Afn hpos us husz i j hj
      have hone:∀(k:Nat) (u:Value),U[k]? = some u→u.oneCell'=true:=fun k u hk=>by
       have e1:k=(k / n)*n+k % n:=by rw [Nat.mul_comm];exact (Nat.div_add_mod k n).symm
       have hjn:=Nat.mod_lt k hpos;rw [e1,hUget _ _ hjn] at hk;cases hq:us[k / n]? with
       | none=>simp [hq] at hk
       | some uu =>
         simp [hq] at hk;have hlt:k / n<vs'.length:=by rw [hvlen,←husl];exact List.lt_of_some hq
         have hlt2:k % n<(vs'[k / n]).cells.length:=by rw [hes _ _ (List.getElem?_eq_getElem hlt)];exact hjn
         exact (hall _ _ _ _ uu u (List.getElem?_eq_getElem hlt) (List.getElem?_eq_getElem hlt2) hq hk).2.1
      obtain ⟨m2,hr2,hst2,hfz2,hbk2,hwk,hfk,hl2⟩:=Jo (U:=U) (ty:=e) hr1 hpos hnew hes hone (by rw [hUl,hvlen];exact Nat.le_refl _)
       (fun i j x c he hc=>by
         have hil:i<us.length:=by rw [husl,←hvlen];exact List.lt_of_some he
         have hjl:j<n:=by rw [←hes i x he];exact List.lt_of_some hc
         have hu0:=List.getElem?_eq_getElem hil;have hlt:j<(us[i]).cells.size:=by rw [hus i _ hu0];exact hjl
         have hx0:=Array.getElem?_eq_getElem hlt;obtain ⟨k1,k2,k3⟩:=hall i j x c _ _ he hc hu0 hx0;refine ⟨_,by rw [hUget i j hjl,hu0];exact hx0,k1,?_⟩;rcases k3 with ⟨k3,k4⟩|⟨kn,k4⟩
         ·exact .inl ⟨k3,hfz▸k4⟩
         ·refine .inr ⟨kn,?_,?_⟩
          ·rw [AbT hpos vs' hesz i j hjl,he];exact hc
          ·rw [hl1];exact k4)
      refine ⟨.slice (some ⟨w.heap.size,0,none⟩) len len,w.alloc (.cells U e),m2,.inl ?_,hr2,hst1.trans hst2,hwk,by rw [←hfz];exact hfk,fun b h=>by rw [hfz2,hfz];exact h,by rw [hl2,hl1],
       Acs hnew hbk2 hvlen.symm (Nat.le_refl _) (EP _ _) (by rw [hUl];exact Nat.le_refl _)⟩
      have hzip:ps.toList.map (fun (i,x)=>(i,a.eval x))=(us.zipIdx 0).map fun (u,i)=>(i,u):=by
       apply List.ext_getElem?;intro j;simp only [List.getElem?_map,List.getElem?_zipIdx,us];cases hj:ps.toList[j]? with
       | none=>simp
       | some ix =>
         obtain ⟨i,x⟩:=ix;have hjl:j<xs.length:=by rw [p1];exact List.lt_of_some hj
         have:=(p2 j i x _ hj (List.getElem?_eq_getElem hjl)).1;simp at this;simp [this]
      have h24:¬(len*n>2 ^ 24):=by omega
      have hps:(ps.map fun (i,x)=>(i,a.eval x)).toList=(us.zipIdx 0).map fun (u,i)=>(i,u):=by rw [←hzip];simp
      have hfill:∀X:Array Value,X.size=len*n→Instr.fill (fun i=>some (i*n,n)) X ((us.zipIdx 0).map fun (u,i)=>(i,u))=some U:=by
       intro X hX;rw [fill_all n us 0 X husz (by rw [husl,hX];omega)];simp only [Nat.zero_mul,List.take_zero,List.nil_append,Nat.zero_add,U];rw [List.drop_of_length_le (by rw [husl];simp [hX])];simp
      simp only [execOp,ho,Instr.buildSlice];simp only [Sem.run_bind,run_underlying hu,Result.andThen,Ba hn,Sem.run_ite,h24,if_false,Sem.run_pure,hps];by_cases hl0:len*n=0
      ·simp only [hl0,if_true];rw [hfill _ (by simp [hl0])];simp [newRow]
      ·simp only [hl0,if_false,Sem.run_bind,BA hi hzv,Result.andThen,Sem.run_pure];rw [hfill _ (by simp)];simp [newRow]
 ·cases hx
theorem ok_mkm (ht:TR w m σ.h L σ.t a.tmps)(hr:Rel w0 fz0 m σ.h w){t:TypeId}{s:Nat}(ho:o.op = .makeMap t none)
 (hx:ax base (.mkm s) σ=some (v,h')):OpOk P o a w0 fz0 m σ.h w L v h':=by
 simp only [ax] at hx;cases hnew:newOb σ.h (base+s) (.ownm []) with
 | none=>simp [hnew] at hx
 | some hs =>
   obtain ⟨hf,st⟩:=hs;simp only [hnew,Option.some.injEq,Prod.mk.injEq] at hx;obtain ⟨rfl,rfl⟩:=hx;obtain ⟨ob,hob,hgone,rfl,rfl⟩:=A9 hnew;have hsl:=List.lt_of_some hob;have hr2:=hr.newRoot (h':=σ.h.set (base+s) { st:=ob.st+1,ss:=0,c:=.ownm [] }) (w':=w.alloc (.map #[] 0)) (base+s) (.ownm []) (hr.below.alloc hr.below.size _) (by rw [alloc_size];omega) (fun k hk=>Below.heap_alloc _ _ _ hk)
    ⟨_,List.getElem?_set_self hsl,rfl⟩ (.inr ⟨rfl,0,EP _ _⟩) (fun r2 o2 hne ho2 hi=>⟨o2,by rw [List.getElem?_set_ne (fun h=>hne h.symm)] at ho2;exact ho2,rfl⟩)
   refine ⟨.map (some w.heap.size),w.alloc (.map #[] 0),_,.inl ?_,hr2,HStep.new hnew (fun r p hne _=>by show Bu _ _ _ _ _=_;simp [Bu,hne]),alloc_wkeep _ _,?_,fun _ h=>h,by simp,?_⟩
   ·simp [execOp,ho,Instr.makeMap]
   ·intro b off u hb hc;exact (World.cell?_of_block (a:=⟨b,off,none⟩) (Below.heap_alloc w _ b (hr.fzlt b hb))).trans hc
   ·refine .ref _ _ rfl ⟨_,List.getElem?_set_self hsl,Nat.le_refl _,fun _ h=>absurd rfl h,fun es hn=>?_⟩;show _=Value.map (some (Bu m (base+s) (w.heap.size,0) (base+s) []).1);simp [Bu]
theorem ok_bxf (ht:TR w m σ.h L σ.t a.tmps)(hr:Rel w0 fz0 m σ.h w){t:TypeId}{x:Operand}{x':Opd}(ho:o.op = .box t x)
 (h1:opd x=some x') (hx:ax base (.bxf x') σ=some (v,h')):OpOk P o a w0 fz0 m σ.h w L v h':=by
 have hb:=ht.get (a:=a) h1;simp only [ax] at hx;split at hx
 ·rename_i xs hxs;rw [hxs] at hb;simp only [Option.some.injEq,Prod.mk.injEq] at hx;obtain ⟨rfl,rfl⟩:=hx;have h0:=Ni hb rfl;obtain ⟨A,len,cap,hc⟩:∃A len cap,a.eval x = .slice A len cap:=by
   generalize a.eval x=c at h0;cases h0 with
   | lstn=>exact ⟨_,_,_,rfl⟩
   | lst=>exact ⟨_,_,_,rfl⟩
  have hlt:∀k,k<w.heap.size→(w.alloc (.cells #[a.eval x] t)).heap[k]? = w.heap[k]? := fun k hk=>Below.heap_alloc _ _ _ hk;have hfk:FKeep w (w.alloc (.cells #[a.eval x] t)) m.fz:=fun b o v hb hc=>(World.cell?_of_block (a:=⟨b,o,none⟩) (hlt b (hr.fzlt b hb))).trans hc;have hwk:=alloc_wkeep w (.cells #[a.eval x] t);have hr1:=hr.alloc (.cells #[a.eval x] t);have hr2:Rel w0 fz0 { blk:=m.blk,fz:=fun b=>m.fz b∨b=w.heap.size } σ.h (w.alloc (.cells #[a.eval x] t)):=by
   refine hr1.keep rfl hr1.below (Nat.le_refl _) (fun _ _ _ _ _=>rfl) (fun r p nd hn hi=>?_) (WKeep.refl _).zero (FKeep.refl _ _) (fun b hb=>.inl hb) ?_ (fun b hb=>.inl (hr.fzin b hb)) ?_
   ·have:=hr.lo r p nd hn hi;refine ⟨this.1,fun h=>?_⟩;rcases h with h|h
    ·exact this.2 h
    ·have:=(hr.nodes r p nd hn).lt hi;omega
   ·rintro b (hb|rfl)
    ·exact hr1.fzlt b hb
    ·rw [alloc_size];omega
   ·rintro b (hb|rfl)
    ·exact hr.fzge b hb
    ·exact .inr hr.below.size
  refine ⟨.pointer (some ⟨w.heap.size,0,none⟩),w.alloc (.cells #[a.eval x] t),{ blk:=m.blk,fz:=fun b=>m.fz b∨b=w.heap.size },.inl ?_,hr2,HStep.refl _ _,hwk,hfk,fun b hb=>.inl hb,rfl,?_⟩
  ·rw [show (execOp a.eval o).run P w=_ from by simp [execOp,ho,Instr.box,newVar,newRow];rfl];rw [hc];rfl
  ·refine .base _ _ (.pfro _ _ (fun _=>a.eval x) (.inr rfl) rfl (fun j c hj=>?_) (fun j c hj=>?_))
   ·cases j with
    | zero =>
      simp at hj;subst hj;refine ⟨rfl,by rw [hc];rfl,?_⟩;have:(w.alloc (.cells #[a.eval x] t)).heap[w.heap.size]? = some (.cells #[a.eval x] t (0,0)):=EP _ _;unfold World.cell?;simp only [Nat.add_zero,this];rfl
    | succ j=>simp at hj
   ·cases j with
    | zero=>simp at hj;subst hj;exact h0.mono (fun b o v hb hc=>hfk b o v hb hc) (fun b hb=>.inl hb)
    | succ j=>simp at hj
 ·cases hx
end
end Go.Mw
namespace Go.Mw
open Go.RowKit
section
variable {P:Program}{sm:List Nat}{o:Oper}{a:Act}{w0:World}{fz0:Nat→Prop}{m:Mem}{w:World}{L:Nat→Nat→Prop}{σ:St}{base:Nat}{i:Ins}{v:AV}{h':List Ob}
def VF (P:Program)(w:World)(c:Value)(n es:Nat)(V:List Value):Prop :=
 V.length=n*es∧∃A cap,c = .slice A n cap∧∀w':World,w'.heap=w.heap→(Builtin.firstCells es n c).run P w' = .ok V.toArray w'
theorem Lw {A:Addr}(hA:A.spot=none){n cap es:Nat}(V:List Value)(hl:V.length=n*es)(hc:∀(k:Nat) (u:Value),V[k]? = some u→w.cell? ⟨A.block,A.off+k,none⟩=some u) :
 VF P w (.slice (some A) n cap) n es V:=by
 refine ⟨hl,some A,cap,rfl,fun w' hw=>?_⟩;have:=run_loadCells_list (P:=P) w' A V (fun j u hj=>by
  rw [Addr.add_spot hA];rw [←hc j u hj];exact World.cell?_of_block (by rw [hw]))
 simp only [Builtin.firstCells];rw [←hl,this]
structure YOk (w:World)(m1:Mem)(N es:Nat)(ys:List AV)(YV:List Value)(moved:Bool):Prop where
 cell:∀(i j:Nat) (e c:AV),ys[i]? = some e→e.cells[j]? = some c→∃u,YV[i*es+j]? = some u∧c.one=true∧u.oneCell'=true ∧
  ((isNode c=false∧CellR w m1 N [(i,j)] c u)∨(moved=true∧isNode c=true∧CellR w m1 N [(i,j)] c u))
 es:∀(i:Nat) (e:AV),ys[i]? = some e→e.cells.length=es
 one:∀(k:Nat) (u:Value),YV[k]? = some u→u.oneCell'=true
theorem VRel0.notNode {w:World}{fz:Nat→Prop}{v:AV}{c:Value}(h:VRel0 w fz v c):isNode v=false:=by cases h<;>rfl
def gob:Ob:={ st:=0,ss:=0,c:=.gone }
theorem Rel.pushGone {h:List Ob}(hr:Rel w0 fz0 m h w):Rel w0 fz0 m (h++[gob]) w:=by
 refine hr.congr (fun r p nd hn hi=>?_);obtain ⟨o,e,hnav⟩:=Ac.1 hn;rcases Nat.lt_or_ge r h.length with hlt|hge
 ·rw [List.getElem?_append_left hlt] at e;exact Ac.2 ⟨o,e,hnav⟩
 ·rw [List.getElem?_append_right hge] at e;cases hk:r-h.length with
  | zero=>rw [hk] at e;simp at e;subst e;exact (Hg hnav hi).elim
  | succ k=>rw [hk] at e;simp at e
theorem Kb {w:World}{m:Mem}{r:Nat}{q:Path}{c:AV}{u:Value}(hn:isNode c=false)(h:VRel0 w m.fz c u):CellR w m r q c u:=by
 cases c<;>first|exact h|exact True.intro|(simp [isNode] at hn)
theorem take_step {h h1:List Ob}{tl:List Ob}(hr:Rel w0 fz0 m (h++tl) w){r st ss es:Nat}{p:Path}{xs:List AV}(off len:Nat)(hnd:node h r st p ss=some (.own es xs))(hs:setOb h r p .gone false=some h1) :
 ∃m1:Mem,m1.fz=m.fz∧Rel w0 fz0 m1 (h1++(tl++[{ st:=0,ss:=0,c:=.own es ((xs.drop off).take len) }])) w∧h1.length=h.length∧HStep m m1 h h1∧(∀r p,r<h.length+tl.length→m1.blk r p=m.blk r p) ∧
  m1.blk (h.length+tl.length) []=((m.blk r p).1,(m.blk r p).2+off*es):=by
 obtain ⟨o,c',ho,hu,rfl⟩:=Cc hs;have hrl:r<h.length:=List.lt_of_some ho;have hT:h.length+tl.length≠r:=by omega
 have hnA:nodeAt (h++tl) r p=some (.own es xs):=by
  obtain ⟨o',e1,e2⟩:=Ac.1 (CK hnd);exact Ac.2 ⟨o',by rw [List.getElem?_append_left hrl];exact e1,e2⟩
 refine ⟨{ blk:=takeBlk m r p es off (h.length+tl.length),fz:=m.fz },rfl,?_,by simp,?_,fun r2 p2 hr2=>?_,by simp [takeBlk]⟩
 ·refine hr.take hnA off len (h.length+tl.length) hT (fun o ho=>?_) ⟨{ st:=0,ss:=0,c:=.own es ((xs.drop off).take len) },?_,rfl⟩ ⟨o,_,by rw [List.getElem?_append_left hrl];exact ho,by rw [List.getElem?_append_left (by simpa using hrl),List.getElem?_set_self hrl],hu⟩ (fun r2 o2 e1 e2 e3 hi=>?_)
  ·rw [List.getElem?_eq_none (by simp)] at ho;cases ho
  ·rw [←List.append_assoc,List.getElem?_append_right (by simp)];simp
  ·refine ⟨o2,?_,rfl⟩;rw [←List.append_assoc] at e3;rcases Nat.lt_or_ge r2 (h.length+tl.length) with hlt|hge
   ·rw [List.getElem?_append_left (by simpa using hlt)] at e3;rcases Nat.lt_or_ge r2 h.length with hl2|hl2
    ·rw [List.getElem?_append_left (by simpa using hl2),List.getElem?_set_ne (fun h=>e1 h.symm)] at e3;rw [List.getElem?_append_left hl2];exact e3
    ·rw [List.getElem?_append_right (by simpa using hl2)] at e3;rw [List.getElem?_append_right hl2];simpa using e3
   ·have:r2≠h.length+tl.length:=e2;rw [List.getElem?_eq_none (by simp;omega)] at e3;cases e3
 ·intro r2 o2 ho2;by_cases er:r2=r
  ·subst er;rw [ho] at ho2;cases ho2;refine ⟨_,by rw [List.getElem?_set_self hrl];rfl,BQ.gone hu (fun _=>by show takeBlk _ _ _ _ _ _ _ _=_;unfold takeBlk;rw [if_neg hT.symm])⟩
  ·exact ⟨o2,by rw [List.getElem?_set_ne (fun h=>er h.symm)];exact ho2,BQ.same (fun p nd _ _=>by
    have:=List.lt_of_some ho2;have hne:r2≠h.length+tl.length:=by omega
    simp [takeBlk,hne])⟩
 ·have hne:r2≠h.length+tl.length:=by omega
  simp [takeBlk,hne]
theorem AaR {h h1:List Ob}{es:Nat}{y:AV}{c:Value}{ys:List AV}(hpos:0<es)(hr:Rel w0 fz0 m h w)(hv:VRel w m.fz (RefR w m h L) y c)(hk:appY h es y=some (ys,h1)) :
 ∃(m1:Mem) (Y:Ob) (YV:List Value) (moved:Bool),m1.fz=m.fz∧Rel w0 fz0 m1 (h1++[Y]) w∧h1.length=h.length∧HStep m m1 h h1∧(∀r p,r<h.length→m1.blk r p=m.blk r p) ∧
  VF P w c ys.length es YV∧YOk w m1 h.length es ys YV moved∧(moved=true→Y.c = .own es ys):=by
 have nil:∀A cap,c = .slice A 0 cap→ys = []→h1=h→∃(m1:Mem) (Y:Ob) (YV:List Value) (moved:Bool),m1.fz=m.fz∧Rel w0 fz0 m1 (h1++[Y]) w∧h1.length=h.length∧HStep m m1 h h1∧(∀r p,r<h.length→m1.blk r p=m.blk r p) ∧
  VF P w c ys.length es YV∧YOk w m1 h.length es ys YV moved∧(moved=true→Y.c = .own es ys):=by
  rintro A cap rfl rfl rfl;refine ⟨m,gob,[],false,rfl,hr.pushGone,rfl,HStep.refl m _,fun _ _ _=>rfl,⟨by simp,A,cap,rfl,fun w' _=>?_⟩,⟨fun i j e c he=>by simp at he,fun i e he=>by simp at he,fun k u h=>by simp at h⟩,fun h=>by cases h⟩;cases A with
  | none=>simp [Builtin.firstCells]
  | some A=>simp [Builtin.firstCells,loadCells,loadCellsFrom]
 unfold appY at hk;split at hk
 ·cases hk;exact nil none 0 hv.inv_nils rfl rfl
 ·cases hk;obtain ⟨A,e⟩:=hv.inv_emp;exact nil A 0 e rfl rfl
 ·cases hk;obtain ⟨A,cap,e⟩:=hv.inv_ne;exact nil (some A) cap e rfl rfl
 ·rename_i ys0;split at hk
  ·rename_i hhead;cases hk;rcases hv.inv_lst with ⟨h0,e⟩|⟨A,cap,es0,vs,eA,hcap,hfz,hes,hc,hrel⟩
   ·subst h0;exact nil none 0 e rfl rfl
   cases hys:ys with
   | nil=>subst hys;exact nil (some A) cap (by simpa using eA) rfl rfl
   | cons y0 yt =>
     rw [←hys];have hes0:es0=es:=by
      have g1:=hes 0 y0 (by rw [hys];rfl);rw [hys] at hhead;simp at hhead;omega
     subst hes0;have hlen0:0<ys.length:=by rw [hys];simp
     obtain ⟨hf1,hf2⟩:=hfz hlen0;let YV:List Value:=(List.range (ys.length*es0)).map fun k=>vs (k / es0) (k % es0);have hget:∀i j,i<ys.length→j<es0→YV[i*es0+j]? = some (vs i j):=by
      intro i j hi hj;have hlt:i*es0+j<ys.length*es0:=by
       have:(i+1)*es0≤ys.length*es0:=Nat.mul_le_mul_right _ hi;rw [Nat.add_mul] at this;omega
      simp only [YV,List.getElem?_map];rw [List.getElem?_range hlt];simp only [Option.map_some];have e1:(i*es0+j) / es0=i:=by rw [Nat.add_comm,Nat.add_mul_div_right _ _ hpos,Nat.div_eq_of_lt hj];omega
      have e2:(i*es0+j) % es0=j:=by rw [Nat.add_comm,Nat.add_mul_mod_self_right,Nat.mod_eq_of_lt hj]
      rw [e1,e2]
     have hsplit:∀k u,YV[k]? = some u→∃i j e d,k=i*es0+j∧j<es0∧ys[i]? = some e∧e.cells[j]? = some d∧u=vs i j:=by
      intro k u hk;have hlt:k<ys.length*es0:=by have:=List.lt_of_some hk;simpa [YV] using this
      have e1:k=(k / es0)*es0+k % es0:=by rw [Nat.mul_comm];exact (Nat.div_add_mod k es0).symm
      have e2:k / es0<ys.length:=Nat.div_lt_of_lt_mul (by rw [Nat.mul_comm];exact hlt);have e3:=Nat.mod_lt k hpos;have hj2:k % es0<(ys[k / es0]).cells.length:=by rw [hes _ _ (List.getElem?_eq_getElem e2)];exact e3
      refine ⟨k / es0,k % es0,_,_,e1,e3,List.getElem?_eq_getElem e2,List.getElem?_eq_getElem hj2,?_⟩;rw [e1,hget _ _ e2 e3] at hk;cases hk;rfl
     refine ⟨m,gob,YV,false,rfl,hr.pushGone,rfl,HStep.refl m h,fun _ _ _=>rfl,?_,⟨fun i j e d he hd=>?_,hes,fun k u hk=>?_⟩,fun h=>by cases h⟩
     ·rw [eA];refine Lw hf2 YV (by simp [YV]) (fun k u hk=>?_);obtain ⟨i,j,e,d,rfl,_,he,hd,rfl⟩:=hsplit k u hk;exact (hc i e j d he hd).2.2
     ·have hj:j<es0:=by rw [←hes i e he];exact List.lt_of_some hd
      obtain ⟨g1,g2,_⟩:=hc i e j d he hd;have hr0:=hrel i e j d he hd;have hnn:isNode d=false:=hr0.notNode;exact ⟨_,hget i j (List.lt_of_some he) hj,g1,g2,.inl ⟨hnn,Kb hnn hr0⟩⟩
     ·obtain ⟨i,j,e,d,rfl,_,he,hd,rfl⟩:=hsplit k u hk;exact (hc i e j d he hd).2.1
  ·cases hk
 ·rename_i r st p ss off len;split at hk
  ·rename_i es' zs hnd;obtain ⟨ob,g1,g2,g3,g4⟩:=hv.inv_ref rfl;obtain ⟨g5,A,cap,eA,hcap,g6⟩:=g4 _ _ hnd;obtain ⟨hp0,arr,ty,ha,hcells⟩:=hr.nodeF hnd;have rd:es'=es→∀(q n:Nat),q=off→n=len→0<n→off+len≤zs.length→∃YV:List Value,VF P w c n es YV∧∀(i j:Nat) (e d:AV),((zs.drop q).take n)[i]? = some e→e.cells[j]? = some d→∃u:Value,YV[i*es+j]? = some u∧d.one=true∧u.oneCell'=true∧CellR w m r (p++[(q+i,j)]) d u:=by
    rintro rfl q n rfl rfl hn0 hle;have hA:A=⟨(m.blk r p).1,(m.blk r p).2+q*es',none⟩:=by
     rcases g6 with g6|g6
     ·omega
     ·exact g6.1
    have hidx:∀i j,i<n→j<es'→∃u,arr[(m.blk r p).2+q*es'+(i*es'+j)]? = some u:=by
     intro i j hi hj;have hlt:q+i<zs.length:=by omega
     obtain ⟨k1,k2⟩:=hcells (q+i) _ (List.getElem?_eq_getElem hlt);obtain ⟨_,u,k3,_⟩:=k2 j _ (List.getElem?_eq_getElem (by rw [k1];exact hj));exact ⟨u,by rw [←k3];congr 1;rw [Nat.add_mul];omega⟩
    have hsz:(m.blk r p).2+q*es'+n*es'≤arr.size:=by
     obtain ⟨u,hu⟩:=hidx (n-1) (es'-1) (by omega) (by omega);have:=(Array.getElem?_eq_some_iff.1 hu).1;have e1:(n-1)*es'+es'=n*es':=by rw [←Nat.succ_mul];congr 1;omega
     omega
    let YV:List Value:=(arr.toList.drop ((m.blk r p).2+q*es')).take (n*es');have hYg:∀k,k<n*es'→YV[k]? = arr[(m.blk r p).2+q*es'+k]? := by
     intro k hk;simp only [YV];rw [List.getElem?_take,if_pos hk,List.getElem?_drop,Array.getElem?_toList]
    refine ⟨YV,?_,fun i j e d he hd=>?_⟩
    ·rw [eA];refine Lw (by rw [hA]) YV (by simp [YV];omega) (fun k u hk=>?_);have hlt:=List.lt_of_some hk;simp [YV] at hlt;rw [hYg k (by omega)] at hk;rw [hA];simp only [World.cell?,ha];simpa using hk
    ·rw [List.getElem?_take] at he;split at he
     ·rename_i hi;rw [List.getElem?_drop] at he;obtain ⟨k1,k2⟩:=hcells (q+i) e he;obtain ⟨k3,u,k4,k5,k6⟩:=k2 j d hd;have hj:j<es':=by rw [←k1];exact List.lt_of_some hd
      have hlt:i*es'+j<n*es':=by
       have:(i+1)*es'≤n*es':=Nat.mul_le_mul_right _ hi;rw [Nat.add_mul] at this;omega
      refine ⟨u,?_,k3,k5,k6⟩;rw [hYg _ hlt,←k4];congr 1;rw [Nat.add_mul];omega
     ·cases he
   have hone:∀(YV:List Value) (zz:List AV),VF P w c zz.length es YV→(∀(i:Nat) (e:AV),zz[i]? = some e→e.cells.length=es)→(∀(i j:Nat) (e d:AV),zz[i]? = some e→e.cells[j]? = some d→∃u:Value,YV[i*es+j]? = some u∧u.oneCell'=true)→∀(k:Nat) (u:Value),YV[k]? = some u→u.oneCell'=true:=by
    intro YV zz hrd hzs hz k u hk;have hlt:k<zz.length*es:=by rw [←hrd.1];exact List.lt_of_some hk
    have e1:k=(k / es)*es+k % es:=by rw [Nat.mul_comm];exact (Nat.div_add_mod k es).symm
    have e2:k / es<zz.length:=Nat.div_lt_of_lt_mul (by rw [Nat.mul_comm];exact hlt);have e3:=Nat.mod_lt k hpos;have hj2:k % es<(zz[k / es]).cells.length:=by rw [hzs _ _ (List.getElem?_eq_getElem e2)];exact e3
    obtain ⟨u',h1,h2⟩:=hz _ _ _ _ (List.getElem?_eq_getElem e2) (List.getElem?_eq_getElem hj2);rw [←e1,hk] at h1;cases h1;exact h2
   split at hk
   ·rename_i hc;obtain ⟨rfl,hle,hall⟩:=hc;cases hk;rcases Nat.eq_zero_or_pos len with h0|h0
    ·subst h0;exact nil (some A) cap eA (by simp) rfl
    ·obtain ⟨YV,hrd,hcell⟩:=rd rfl off len rfl rfl h0 hle;have hlen:((zs.drop off).take len).length=len:=by simp;omega
     have hzs:∀(i:Nat) (e:AV),((zs.drop off).take len)[i]? = some e→e.cells.length=es':=by
      intro i e he;rw [List.getElem?_take] at he;split at he
      ·rw [List.getElem?_drop] at he;exact (hcells _ _ he).1
      ·cases he
     refine ⟨m,gob,YV,false,rfl,hr.pushGone,rfl,HStep.refl m _,fun _ _ _=>rfl,by rw [hlen];exact hrd,⟨fun i j e d he hd=>?_,hzs,hone YV _ (by rw [hlen];exact hrd) hzs (fun i j e d he hd=>by obtain ⟨u,k1,_,k3,_⟩:=hcell i j e d he hd;exact ⟨u,k1,k3⟩)⟩,fun h=>by cases h⟩;obtain ⟨u,k1,k2,k3,k4⟩:=hcell i j e d he hd;have hpl:d.plain=true:=by
      rw [List.all_eq_true] at hall;have:=hall e (List.mem_of_getElem? he);rw [List.all_eq_true] at this;exact this d (List.mem_of_getElem? hd)
     have hnn:=(C4 hpl).2;refine ⟨u,k1,k2,k3,.inl ⟨hnn,?_⟩⟩;cases d<;>first|exact k4|exact True.intro|(simp [isNode] at hnn)
   ·split at hk
    ·rename_i hc;obtain ⟨rfl,rfl,rfl⟩:=hc;cases hs:setOb h r p .gone false with
     | none=>simp [hs] at hk
     | some hh =>
       simp [hs] at hk;obtain ⟨rfl,rfl⟩:=hk;rcases Nat.eq_zero_or_pos zs.length with h0|h0
       ·have hz0:zs = []:=List.eq_nil_of_length_eq_zero h0;subst hz0;obtain ⟨m1,hfz,hr1,hl1,hst1,hbk1,_⟩:=take_step (tl:=[]) (by simpa using hr) 0 0 hnd hs;simp only [List.nil_append,List.length_nil,Nat.add_zero] at hr1 hbk1;refine ⟨m1,_,[],false,hfz,hr1,hl1,hst1,hbk1,⟨by simp,some A,cap,eA,fun w' _=>by rw [eA];simp [Builtin.firstCells,loadCells,loadCellsFrom]⟩,⟨fun i j e c he=>by simp at he,fun i e he=>by simp at he,fun k u h=>by simp at h⟩,fun h=>by cases h⟩
       ·obtain ⟨YV,hrd,hcell⟩:=rd rfl 0 zs.length rfl rfl h0 (by omega);simp only [List.drop_zero,List.take_length,Nat.zero_add] at hcell;obtain ⟨m1,hfz,hr1,hl1,hst1,hbk1,hbT⟩:=take_step (tl:=[]) (by simpa using hr) 0 zs.length hnd hs;simp only [List.nil_append,List.length_nil,Nat.add_zero,List.drop_zero,List.take_length,Nat.zero_mul] at hr1 hbk1 hbT;have hnT:nodeAt (hh++[({ st:=0,ss:=0,c:=.own es' zs }:Ob)]) h.length []=some (.own es' zs):=Ac.2 ⟨{ st:=0,ss:=0,c:=.own es' zs },by rw [List.getElem?_append_right (by omega)];simp [hl1],nav_nil _⟩;obtain ⟨_,arr2,ty2,ha2,hcells2⟩:=hr1.nodes _ _ _ hnT;rw [hbT,ha] at ha2;cases ha2;refine ⟨m1,_,YV,true,hfz,hr1,hl1,hst1,hbk1,hrd,⟨fun i j e d he hd=>?_,fun i e he=>(hcells i e he).1,hone YV _ hrd (fun i e he=>(hcells i e he).1) (fun i j e d he hd=>by obtain ⟨u,k1,_,k3,_⟩:=hcell i j e d he hd;exact ⟨u,k1,k3⟩)⟩,fun _=>rfl⟩;obtain ⟨u,k1,k2,k3,k4⟩:=hcell i j e d he hd;obtain ⟨_,q2⟩:=hcells i e he;obtain ⟨_,u1,q3,_,_⟩:=q2 j d hd;obtain ⟨_,q5⟩:=hcells2 i e he;obtain ⟨_,u2,q6,_,q7⟩:=q5 j d hd;rw [hbT] at q6;have hrd2:=hrd;have hu1:u1=u2:=by rw [q3] at q6;cases q6;rfl
        subst hu1;have huu:u=u1:=by
         have hA:A=⟨(m.blk r p).1,(m.blk r p).2+0*es',none⟩:=by
          rcases g6 with g6|g6
          ·omega
          ·exact g6.1
         obtain ⟨hYl,A',cap',eA',hrun⟩:=hrd;have hrun:=hrun w rfl;rw [eA,hA] at hrun;simp only [Builtin.firstCells] at hrun;have h3:=run_loadCells_list (P:=P) w ⟨(m.blk r p).1,(m.blk r p).2+0*es',none⟩ ((arr.toList.drop ((m.blk r p).2)).take (zs.length*es')) (fun jj uu hjj=>by
          rw [Addr.add_none];simp only [World.cell?,ha];rw [List.getElem?_take] at hjj;split at hjj
          ·rw [List.getElem?_drop] at hjj;simpa using hjj
          ·cases hjj)
         have hlen3:((arr.toList.drop ((m.blk r p).2)).take (zs.length*es')).length=zs.length*es':=by
          have hl:=(Array.getElem?_eq_some_iff.1 q3).1;have hlast:zs.length-1<zs.length:=by omega
          obtain ⟨w1,w2⟩:=hcells (zs.length-1) _ (List.getElem?_eq_getElem hlast);obtain ⟨_,u9,w3,_⟩:=w2 (es'-1) _ (List.getElem?_eq_getElem (by rw [w1];omega));have:=(Array.getElem?_eq_some_iff.1 w3).1;have e1:(zs.length-1)*es'+es'=zs.length*es':=by rw [←Nat.succ_mul];congr 1;omega
          simp;omega
         rw [hlen3,hrun] at h3;simp only [Result.ok.injEq,and_true] at h3;have h4:YV=(arr.toList.drop ((m.blk r p).2)).take (zs.length*es'):=by simpa using h3
         rw [h4,List.getElem?_take] at k1;split at k1
         ·rw [List.getElem?_drop,Array.getElem?_toList,q3] at k1;cases k1;rfl
         ·cases k1
        subst huu;refine ⟨u,k1,k2,k3,?_⟩;simp only [List.nil_append] at q7;cases hnn:isNode d with
        | true=>exact .inr ⟨rfl,rfl,q7⟩
        | false=>exact .inl ⟨rfl,q7⟩
    ·cases hk
  ·cases hk
 ·cases hk
end
end Go.Mw
namespace Go.Mw
open Go.RowKit
section
variable {P:Program}{sm:List Nat}{o:Oper}{a:Act}{w0:World}{fz0:Nat→Prop}{m:Mem}{w:World}{L:Nat→Nat→Prop}{σ:St}{base:Nat}{i:Ins}{v:AV}{h':List Ob}
theorem Oj {t u ty e e':TypeId}{inf:TypeInfo}(ht:P.underlying t=some (.slice e))(hu:P.underlying u=some (.slice e'))(hi:P.info? e=some inf)
 {A:Option Addr}{n cap k:Nat}{cy:Value}{YV:List Value}(hy:VF P w cy k inf.size YV) (hroom:n+k≤cap) {w':World}
 (hst:∀A',A=some A'→(storeCells (A'.add (n*inf.size)) YV).run P w = .ok () w') (hno:A=none→w'=w) :
 (Builtin.append_ #[t,u] ty #[.slice A n cap,cy]).run P w = .ok (.slice A (n+k) cap) w':=by
 obtain ⟨hl,B,capy,rfl,hf⟩:=hy;have hf:=hf w rfl;cases A with
 | none =>
   have:=hno rfl;subst this;simp [Builtin.append_,run_underlying ht,run_underlying hu,sizeOf,typeInfo,hi,Builtin.lenOf,hroom,hf]
 | some A' =>
   have hst:=hst A' rfl;simp [Builtin.append_,run_underlying ht,run_underlying hu,sizeOf,typeInfo,hi,Builtin.lenOf,hroom,hf,hst]
theorem V2 {t u ty e e':TypeId}{inf:TypeInfo}{z:Value}(ht:P.underlying t=some (.slice e))(hu:P.underlying u=some (.slice e'))(hi:P.info? e=some inf)(hz:inf.zero=some z)
 {cx cy:Value}{n k:Nat}{XV YV:List Value}{A:Option Addr}{cap:Nat}(ex:cx = .slice A n cap) (hx:∀w':World,w'.heap=w.heap→(Builtin.firstCells inf.size n cx).run P w' = .ok XV.toArray w') (hy:VF P w cy k inf.size YV)
 (hg:cap<n+k) (hmax:n+k≤4294967296*(32768 / inf.bytes)) (hb:inf.bytes≤4096) (hb0:0<inf.bytes) :
 (Builtin.append_ #[t,u] ty #[cx,cy]).run P w =
   .ok (.slice (some ⟨w.heap.size,0,none⟩) (n+k) (grownCap w (n+k) cap e)) (w.drew.alloc (.cells (XV.toArray++YV.toArray++Builtin.zeroCells z.cells (grownCap w (n+k) cap e-(n+k))) e)):=by
 obtain ⟨hl,B,capy,rfl,hf⟩:=hy;subst ex;have hf:=hf w.drew rfl;have hx:=hx w.drew rfl;have hn:¬(n+k≤cap):=by omega
 have h0:=Nat.div_le_self 32768 inf.bytes;have h63':¬(9223372036854775807<((n:Int)+(k:Int))):=by omega
 have hfit:Builtin.nextslicecap (n+k) cap*inf.bytes≤281474976710656:=by
  refine growslice_fits hg ?_;have h1:(n+k)*inf.bytes≤4294967296*(32768 / inf.bytes)*inf.bytes:=Nat.mul_le_mul_right _ hmax;have h2:32768 / inf.bytes*inf.bytes≤32768:=Nat.div_mul_le_self ..;rw [Nat.mul_assoc] at h1;omega
 have h48':¬(281474976710656<Builtin.nextslicecap (n+k) cap*inf.bytes):=by omega
 simp [Builtin.append_,run_underlying ht,run_underlying hu,sizeOf,typeInfo,zeroValue,hi,hz,Builtin.lenOf,hn,h63',h48',Question.forced,hf,hx,newRow,grownCap]
 first
  | done
  | (congr 2;apply Array.ext';simp [List.append_assoc])
theorem Xz (w:World)(need old:Nat)(e:TypeId)(h:need<2 ^ 63):need≤grownCap w need old e:=by
 simp only [grownCap,Question.cut];omega
def XOk (w0:World)(fz0:Nat→Prop)(m:Mem)(w:World)(h h2:List Ob)(es:Nat)(x:AV)(c:Value)(xs:List AV)(Y:Ob):Prop :=
 ∃(m1:Mem) (X:Ob),m1.fz=m.fz∧Rel w0 fz0 m1 (h2++[Y,X]) w∧h2.length=h.length∧HStep m m1 h h2∧(∀r p,r<h.length+1→m1.blk r p=m.blk r p) ∧
  ∃(A:Option Addr) (cap:Nat),c = .slice A xs.length cap ∧
   ((xs = []∧h2=h∧(A=none→cap=0)∧(x.isLst=false→cap=0)∧X=gob∧((x = .nils∧A=none)∨x = .emp∨x = .lst [])) ∨
    (∃r st p ss off len,x = .sl r st p ss off len∧X.c = .own es xs∧xs.length≤cap∧A.isSome=true∧(cap=0∨(A=some ⟨(m1.blk (h.length+1) []).1,(m1.blk (h.length+1) []).2,none⟩ ∧
      ∃arr ty,w.heap[(m1.blk (h.length+1) []).1]? = some (.cells arr ty (0,0))∧(m1.blk (h.length+1) []).2+cap*es≤arr.size))))
theorem Aba {h h2:List Ob}{es:Nat}{x:AV}{c:Value}{xs:List AV}{Y:Ob}(hpos:0<es)(hr:Rel w0 fz0 m (h++[Y]) w)(hv:VRel w m.fz (RefR w m h L) x c)(hk:appX h es x=some (xs,h2)) :
 XOk w0 fz0 m w h h2 es x c xs Y:=by
 have nil:∀A cap,c = .slice A 0 cap→xs = []→h2=h→(A=none→cap=0)→(x.isLst=false→cap=0)→((x = .nils∧A=none)∨x = .emp∨x = .lst [])→XOk w0 fz0 m w h h2 es x c xs Y:=by
  rintro A cap rfl rfl rfl h1 h2' h3;refine ⟨m,gob,rfl,?_,rfl,HStep.refl m _,fun _ _ _=>rfl,A,cap,rfl,.inl ⟨rfl,rfl,h1,h2',rfl,h3⟩⟩;have:=hr.pushGone;simpa using this
 unfold appX at hk;split at hk
 ·cases hk;exact nil none 0 hv.inv_nils rfl rfl (fun _=>rfl) (fun _=>rfl) (.inl ⟨rfl,rfl⟩)
 ·cases hk;obtain ⟨A,e⟩:=hv.inv_emp;exact nil A 0 e rfl rfl (fun _=>rfl) (fun _=>rfl) (.inr (.inl rfl))
 ·cases hk;rcases hv.inv_lst with ⟨_,e⟩|⟨A,cap,es0,vs,eA,_⟩
  ·exact nil none 0 e rfl rfl (fun _=>rfl) (fun h=>by simp [AV.isLst] at h) (.inr (.inr rfl))
  exact nil (some A) cap eA rfl rfl (fun h=>by cases h) (fun h=>by simp [AV.isLst] at h) (.inr (.inr rfl))
 ·rename_i r st p ss off len;split at hk
  ·rename_i es' zs hnd;split at hk
   ·rename_i hc;obtain ⟨rfl,hle⟩:=hc;cases hs:setOb h r p .gone false with
    | none=>simp [hs] at hk
    | some hh =>
      simp [hs] at hk;obtain ⟨rfl,rfl⟩:=hk;obtain ⟨ob,g1,g2,g3,g4⟩:=hv.inv_ref rfl;obtain ⟨g5,A,cap,eA,hcap,g6⟩:=g4 _ _ hnd;obtain ⟨m1,hfz,hr1,hl1,hst1,hbk1,hbT⟩:=take_step hr off len hnd hs;have hlen:((zs.drop off).take len).length=len:=by simp;omega
      simp only [List.length_singleton] at hbk1 hbT;refine ⟨m1,_,hfz,by simpa using hr1,hl1,hst1,hbk1,some A,cap,by rw [hlen];exact eA,.inr ⟨r,st,p,ss,off,len,rfl,rfl,by rw [hlen];exact hcap,rfl,?_⟩⟩;rcases g6 with g6|⟨rfl,arr,ty,g7,g8⟩
      ·exact .inl g6
      ·refine .inr ⟨by rw [hbT],arr,ty,by rw [hbT];exact g7,?_⟩;rw [hbT];simp only;rw [Nat.add_mul] at g8;omega
   ·cases hk
  ·cases hk
 ·cases hk
theorem Rel.drop2 {h:List Ob}{Y X:Ob}(hr:Rel w0 fz0 m (h++[Y,X]) w):Rel w0 fz0 m h w :=
 hr.congr (fun r p nd hn hi=>by
  obtain ⟨o,e,hnav⟩:=Ac.1 hn;exact Ac.2 ⟨o,by rw [List.getElem?_append_left (List.lt_of_some e)];exact e,hnav⟩)
theorem Rel.heap {h:List Ob}{w':World}(hr:Rel w0 fz0 m h w)(hw:w'.heap=w.heap)(hb:Below w0.heap.size w0 w'):Rel w0 fz0 m h w':=by
 have hwk:WKeep w w':=⟨fun b arr ty h=>⟨arr,by rw [hw];exact h,rfl⟩,fun b e c h=>⟨e,c,by rw [hw];exact h,fun i e h=>⟨e,h,rfl⟩⟩,fun b o h _=>by rw [hw];exact h,by rw [hw];exact Nat.le_refl _⟩;have hfk:FKeep w w' m.fz:=fun b o v _ hc=>(World.cell?_of_block (by rw [hw])).trans hc;exact ⟨hb,fun b h=>by rw [hw];exact hr.fzlt b h,hr.fzin,hr.fzge,fun r p nd hn=>NodeF.mono hwk hfk (fun _ h=>h) rfl (fun _ _ _ _ _ _ _ _ _ _=>rfl) (fun _=>by rw [hw]) (hr.nodes r p nd hn),hr.lo,hr.inj⟩
theorem app_get {es:Nat}{xs ys:List AV}{i:Nat}{e:AV}(h:(xs++ys)[i]? = some e):(i<xs.length∧xs[i]? = some e)∨(xs.length≤i∧ys[i-xs.length]? = some e):=by
 rcases Nat.lt_or_ge i xs.length with hlt|hge
 ·rw [List.getElem?_append_left hlt] at h;exact .inl ⟨hlt,h⟩
 ·rw [List.getElem?_append_right hge] at h;exact .inr ⟨hge,h⟩
theorem Zs {m2:Mem}{h2 hf:List Ob}{Y X:Ob}{es s st N:Nat}{xs ys:List AV}{XV YV:List Value}{moved:Bool}{U:Array Value}{ty:TypeId}{w':World}(hpos:0<es)(hr:Rel w0 fz0 m2 (h2++[Y,X]) w)(hN:h2.length=N)
 (hX:xs = []∨X.c = .own es xs) (hY:moved=true→Y.c = .own es ys) (hXl:XV.length=xs.length*es) (hYl:YV.length=ys.length*es)
 (hXc:∀(i j:Nat) (e c:AV),xs[i]? = some e→e.cells[j]? = some c→e.cells.length=es∧c.one=true∧∃u:Value,XV[i*es+j]? = some u∧u.oneCell'=true∧CellR w m2 (N+1) [(i,j)] c u)
 (hXe:∀(i:Nat) (e:AV),xs[i]? = some e→e.cells.length=es)
 (hYc:YOk w m2 N es ys YV moved) (hU:∀(k:Nat) (u:Value),U[k]? = some u→u.oneCell'=true) (hU2:(xs.length+ys.length)*es≤U.size) (hU3:∀k,k<(xs.length+ys.length)*es→U[k]? = (XV++YV)[k]?)
 (hnew:newOb h2 s (.own es (xs++ys))=some (hf,st)) (hB:Below w0.heap.size w0 w') (hsz:w.heap.size<w'.heap.size) (hwo:∀k,k<w.heap.size→w'.heap[k]? = w.heap[k]?) (hwU:w'.heap[w.heap.size]? = some (.cells U ty (0,0))) :
 ∃m3:Mem,Rel w0 fz0 m3 hf w'∧HStep m2 m3 h2 hf∧m3.fz=m2.fz∧m3.blk s []=(w.heap.size,0)∧hf.length=h2.length:=by
 obtain ⟨ob,hob,hgone,rfl,rfl⟩:=A9 hnew;have hsl:=List.lt_of_some hob;have hwk:WKeep w w':=⟨fun b arr ty hh=>⟨arr,by rw [hwo b (Array.getElem?_eq_some_iff.1 hh).1];exact hh,rfl⟩,fun b ents clock hh=>⟨ents,clock,by rw [hwo b (Array.getElem?_eq_some_iff.1 hh).1];exact hh,fun i e he=>⟨e,he,rfl⟩⟩,fun b o hh _=>by rw [hwo b (Array.getElem?_eq_some_iff.1 hh).1];exact hh,Nat.le_of_lt hsz⟩;have hfk:FKeep w w' m2.fz:=fun b off u hb hc=>(World.cell?_of_block (a:=⟨b,off,none⟩) (hwo b (hr.fzlt b hb))).trans hc;let xs0:List AV:=(xs++ys).map fun _=>.agg (List.replicate es .gone);let h0:List Ob:=(h2++[Y,X]).set s { st:=0,ss:=0,c:=.own es xs0 };have hsl':s<(h2++[Y,X]).length:=by simp;omega
 have hall:∀(i:Nat) (e:AV),(xs++ys)[i]? = some e→e.cells.length=es:=fun i e h=>by
  rcases app_get (es:=es) h with ⟨_,h⟩|⟨_,h⟩
  ·exact hXe i e h
  ·exact hYc.es _ e h
 have hr2:=hr.newRoot (h':=h0) (w':=w') s (.own es xs0) hB hsz hwo
  ⟨_,by simp only [h0];rw [List.getElem?_set_self hsl'],rfl⟩
  (.inl ⟨es,xs0,U,ty,rfl,hpos,hwU,by simpa [xs0] using hU2,hU,fun i e he=>by
    simp only [xs0,List.getElem?_map] at he;cases hx:(xs++ys)[i]? with
    | none=>simp [hx] at he
    | some e' =>
      simp [hx] at he;subst he;refine ⟨by simp [AV.cells],fun j d hd=>?_⟩;simp only [AV.cells] at hd;exact (List.eq_of_mem_replicate (List.mem_of_getElem? hd))⟩)
  (fun r2 o2 hne ho2 hi=>⟨o2,by simp only [h0] at ho2;rw [List.getElem?_set_ne (fun h=>hne h.symm)] at ho2;exact ho2,rfl⟩)
 have hbs:Bu m2 s (w.heap.size,0) s []=(w.heap.size,0):=by simp [Bu]
 have hbne:∀r p,r≠s→Bu m2 s (w.heap.size,0) r p=m2.blk r p:=fun r p h=>by simp [Bu,h]
 have hn0:nodeAt h0 s []=some (.own es xs0):=Ac.2 ⟨_,by simp only [h0];rw [List.getElem?_set_self hsl'],nav_nil _⟩;have hXo:(h2++[Y,X])[N+1]? = some X:=by rw [List.getElem?_append_right (by omega)];simp [hN]
 have hYo:(h2++[Y,X])[N]? = some Y:=by rw [List.getElem?_append_right (by omega)];simp [hN]
 let tf:Nat→Nat→Option (Nat×Path):=fun i j=>match ((xs++ys)[i]?).bind (·.cells[j]?) with
  | some d=>if isNode d=true then (if i<xs.length then some (N+1,[(i,j)]) else some (N,[(i-xs.length,j)])) else none
  | none=>none
 have htf:∀i j T q,tf i j=some (T,q)→(i<xs.length∧T=N+1∧q = [(i,j)])∨(xs.length≤i∧T=N∧q = [(i-xs.length,j)]):=by
  intro i j T q h;simp only [tf] at h;split at h
  ·split at h
   ·split at h
    ·rename_i hlt;cases h;exact .inl ⟨hlt,rfl,rfl⟩
    ·rename_i hge;cases h;exact .inr ⟨by omega,rfl,rfl⟩
   ·cases h
  ·cases h
 have hput:=hr2.put (h':=h2.set s { st:=ob.st+1,ss:=0,c:=.own es (xs++ys) }) (w':=w') (arr:=U) (arr':=U) (ty:=ty) hn0 hr2.below (Nat.le_refl _) (fun _ _ _=>rfl) (WKeep.refl _)
  (by show w'.heap[(Bu m2 s (w.heap.size,0) s []).1]? = _;rw [hbs];exact hwU)
  (by show w'.heap[(Bu m2 s (w.heap.size,0) s []).1]? = _;rw [hbs];exact hwU) tf (xs':=xs++ys) hall ?_ ?_ ?_ (.inl rfl) ?_ ?_
 rotate_left
 ·intro i j e c he hc;have hjl:j<es:=by rw [←hall i e he];exact List.lt_of_some hc
  have hil:=List.lt_of_some he;rw [List.length_append] at hil;have hk:i*es+j<(xs.length+ys.length)*es:=by
   have:(i+1)*es≤(xs.length+ys.length)*es:=Nat.mul_le_mul_right _ hil;rw [Nat.add_mul i 1] at this;omega
  have hbind:((xs++ys)[i]?).bind (·.cells[j]?)=some c:=by rw [he];exact hc
  have hUk:U[(Bu m2 s (w.heap.size,0) s []).2+(i*es+j)]? = (XV++YV)[i*es+j]? := by
   rw [hbs];simp only [Nat.zero_add];exact hU3 _ hk
  rcases app_get (es:=es) he with ⟨hlt,hx⟩|⟨hge,hy⟩
  ·obtain ⟨_,k1,u,k2,k3,k4⟩:=hXc i j e c hx hc;refine ⟨k1,u,?_,k3,?_⟩
   ·show U[(Bu m2 s (w.heap.size,0) s []).2+(i*es+j)]? = some u;rw [hUk,List.getElem?_append_left (List.lt_of_some k2)];exact k2
   ·cases hnn:isNode c with
    | false =>
      refine .inl ⟨by simp only [tf];rw [hbind];simp [hnn],rfl,?_⟩;exact k4.mono hwk hfk (fun _ h=>h) (fun h=>by rw [hnn] at h;cases h)
    | true =>
      refine .inr (.inr ⟨N+1,[(i,j)],by simp only [tf];rw [hbind];simp [hnn,hlt],?_,rfl,?_⟩)
      ·have hXc':X.c = .own es xs:=by
        rcases hX with h|h
        ·subst h;simp at hlt
        ·exact h
       refine Ac.2 ⟨X,by simp only [h0];rw [List.getElem?_set_ne (by omega)];exact hXo,?_⟩;rw [hXc'];exact (AF ..).2 ⟨es,xs,e,c,rfl,hx,hc,nav_nil _⟩
      ·exact k4.mono hwk hfk (fun _ h=>h) (fun _=>hbne _ _ (by omega))
  ·obtain ⟨u,k1,k2,k3,k4⟩:=hYc.cell (i-xs.length) j e c hy hc;have hpk:(XV++YV)[i*es+j]? = some u:=by
    have e1:i*es+j=XV.length+((i-xs.length)*es+j):=by
     rw [hXl,←Nat.add_assoc,←Nat.add_mul];congr 2;omega
    rw [e1,List.getElem?_append_right (by omega),Nat.add_sub_cancel_left];exact k1
   refine ⟨k2,u,?_,k3,?_⟩
   ·show U[(Bu m2 s (w.heap.size,0) s []).2+(i*es+j)]? = some u;rw [hUk];exact hpk
   ·have hnlt:¬i<xs.length:=by omega
    rcases k4 with ⟨k4,k5⟩|⟨k4,k5,k6⟩
    ·exact .inl ⟨by simp only [tf];rw [hbind];simp [k4],k4,k5.mono hwk hfk (fun _ h=>h) (fun h=>by rw [k4] at h;cases h)⟩
    ·refine .inr (.inr ⟨N,[(i-xs.length,j)],by simp only [tf];rw [hbind];simp [k5,hnlt],?_,k5,?_⟩)
     ·refine Ac.2 ⟨Y,by simp only [h0];rw [List.getElem?_set_ne (by omega)];exact hYo,?_⟩;rw [hY k4];exact (AF ..).2 ⟨es,ys,e,c,rfl,hy,hc,nav_nil _⟩
     ·exact k6.mono hwk hfk (fun _ h=>h) (fun _=>hbne _ _ (by omega))
 ·intro i j T q h;rcases htf i j T q h with ⟨_,rfl,_⟩|⟨_,rfl,_⟩<;>omega
 ·intro i j i' j' T q T' q' e1 e2 hne;rcases htf _ _ _ _ e1 with ⟨a1,rfl,rfl⟩|⟨a1,rfl,rfl⟩<;>rcases htf _ _ _ _ e2 with ⟨b1,rfl,rfl⟩|⟨b1,rfl,rfl⟩
  ·refine .inr ⟨fun h=>?_,fun h=>?_⟩<;>simp at h<;>exact hne (by simp [h])
  ·exact .inl (by omega)
  ·exact .inl (by omega)
  ·have key:∀(u v:Nat),u=i-xs.length→v=i'-xs.length→u=v→j=j'→False:=fun u v e1 e2 e3 e4=>hne (by
    have:i=i':=by omega
    rw [this,e4])
   refine .inr ⟨fun h=>?_,fun h=>?_⟩
   ·simp at h;exact key _ _ rfl rfl h.1 h.2
   ·simp at h;exact key _ _ rfl rfl h.1.symm h.2.symm
 ·intro r2 o2 hne ho2 hi2;rw [List.getElem?_set_ne (fun h=>hne h.symm)] at ho2;have hlt2:=List.lt_of_some ho2;refine ⟨o2,?_,rfl,fun i' j' T q h=>?_⟩
  ·simp only [h0];rw [List.getElem?_set_ne (fun h=>hne h.symm),List.getElem?_append_left hlt2];exact ho2
  ·rcases htf i' j' T q h with ⟨_,rfl,_⟩|⟨_,rfl,_⟩<;>omega
 ·exact ⟨_,_,by simp only [h0];rw [List.getElem?_set_self hsl'],by rw [List.getElem?_set_self hsl],F7 _ _⟩
 refine ⟨_,hput,HStep.new hnew (fun r p hne _=>?_),rfl,?_,by simp⟩
 ·show putBlk { blk:=Bu m2 s (w.heap.size,0),fz:=m2.fz } s [] tf r p=_;rw [HU hne];exact hbne r p hne
 ·show putBlk { blk:=Bu m2 s (w.heap.size,0),fz:=m2.fz } s [] tf s []=_;rw [DY];exact hbs
end
end Go.Mw
