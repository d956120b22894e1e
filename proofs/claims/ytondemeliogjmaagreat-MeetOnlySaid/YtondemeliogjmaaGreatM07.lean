/- append: in place, and the operation whole. -/
import Derived.Test.YtondemeliogjmaaGreatM06
set_option linter.unusedVariables false
set_option linter.unusedSimpArgs false
namespace Go.Mw
open Go.RowKit
section
variable {P:Program}{sm:List Nat}{o:Oper}{a:Act}{w0:World}{fz0:Nat→Prop}{m:Mem}{w:World}{L:Nat→Nat→Prop}{σ:St}{base:Nat}{i:Ins}{v:AV}{h':List Ob}
theorem Zv {m2:Mem}{h2 hf:List Ob}{Y X:Ob}{es s st N b oo cap:Nat}{xs ys:List AV}{YV:List Value}{moved:Bool}{arr:Array Value}{ty:TypeId}(hpos:0<es)(hr:Rel w0 fz0 m2 (h2++[Y,X]) w)(hN:h2.length=N)
 (hX:X.c = .own es xs) (hY:moved=true→Y.c = .own es ys) (hYl:YV.length=ys.length*es)
 (hYc:YOk w m2 N es ys YV moved) (hbl:m2.blk (N+1) []=(b,oo)) (ha:w.heap[b]? = some (.cells arr ty (0,0))) (hcap:oo+cap*es≤arr.size) (hroom:xs.length+ys.length≤cap)
 (hnew:newOb h2 s (.own es (xs++ys))=some (hf,st)) :
 ∃m3:Mem,Rel w0 fz0 m3 hf (w.setRow b (arr.toList.take (oo+xs.length*es)++YV++arr.toList.drop (oo+xs.length*es+YV.length)).toArray)∧HStep m2 m3 h2 hf∧m3.fz=m2.fz∧m3.blk s []=(b,oo)∧hf.length=h2.length∧¬m2.fz b:=by
 obtain ⟨ob,hob,hgone,rfl,rfl⟩:=A9 hnew;have hsl:=List.lt_of_some hob;have hXo:(h2++[Y,X])[N+1]? = some X:=by rw [List.getElem?_append_right (by omega)];simp [hN]
 have hnX:nodeAt (h2++[Y,X]) (N+1) []=some (.own es xs):=Ac.2 ⟨X,hXo,by rw [nav_nil,hX]⟩;have hloX:=hr.lo _ _ _ hnX rfl;rw [hbl] at hloX;have hmul:(xs.length+ys.length)*es≤cap*es:=Nat.mul_le_mul_right _ hroom;have hmul':(xs.length+ys.length)*es=xs.length*es+ys.length*es:=Nat.add_mul _ _ _;let hB:List Ob:=(h2.set s { st:=0,ss:=0,c:=.own es xs })++[Y,gob];have hr1:=hr.take hnX 0 xs.length s (by omega) (h':=hB) (fun o ho=>by rw [List.getElem?_append_left hsl,hob] at ho;cases ho;rw [hgone];rfl)
  ⟨_,by simp only [hB];rw [List.getElem?_append_left (by simpa using hsl),List.getElem?_set_self hsl],by simp⟩
  ⟨X,gob,hXo,by simp only [hB];rw [List.getElem?_append_right (by simp;omega)];simp [hN],F7 _ _⟩
  (fun r2 o2 e1 e2 e3 hi=>by
    refine ⟨o2,?_,rfl⟩;simp only [hB] at e3;rcases Nat.lt_or_ge r2 h2.length with hlt|hge
    ·rw [List.getElem?_append_left (by simpa using hlt),List.getElem?_set_ne (fun h=>e2 h.symm)] at e3;rw [List.getElem?_append_left hlt];exact e3
    ·rw [List.getElem?_append_right (by simpa using hge)] at e3;rw [List.getElem?_append_right hge];have:r2-h2.length=0:=by
      have hl:=List.lt_of_some e3;simp at hl;omega
     simp only [List.length_set] at e3;rw [this] at e3 ⊢;exact e3)
 have hm3s:takeBlk m2 (N+1) [] es 0 s s []=(b,oo):=by simp [takeBlk,hbl]
 have hm3ne:∀r p,r≠s→takeBlk m2 (N+1) [] es 0 s r p=m2.blk r p:=fun r p h=>by simp [takeBlk,h]
 generalize hm3d:({ blk:=takeBlk m2 (N+1) [] es 0 s,fz:=m2.fz }:Mem)=m3 at hr1;have hm3b:m3.blk=takeBlk m2 (N+1) [] es 0 s:=by rw [←hm3d]
 have hm3f:m3.fz=m2.fz:=by rw [←hm3d]
 have hnB:nodeAt hB s []=some (.own es xs):=Ac.2 ⟨_,by simp only [hB];rw [List.getElem?_append_left (by simpa using hsl),List.getElem?_set_self hsl],nav_nil _⟩;have hm3s':m3.blk s []=(b,oo):=by rw [hm3b];exact hm3s
 let arr':Array Value:=(arr.toList.take (oo+xs.length*es)++YV++arr.toList.drop (oo+xs.length*es+YV.length)).toArray;have hasz:arr'.size=arr.size:=by simp [arr',hYl];omega
 have hget:∀k,arr'[k]? = if oo+xs.length*es≤k∧k<oo+xs.length*es+ys.length*es then YV[k-(oo+xs.length*es)]? else arr[k]? := by
  intro k;rw [←Array.getElem?_toList];simp only [arr'];by_cases c1:k<oo+xs.length*es
  ·rw [if_neg (by omega),List.append_assoc,List.getElem?_append_left (by simp;omega),List.getElem?_take,if_pos c1];simp
  ·by_cases c2:k<oo+xs.length*es+ys.length*es
   ·rw [if_pos ⟨by omega,c2⟩,List.getElem?_append_left (by simp [hYl];omega),List.getElem?_append_right (by simp;omega)];simp only [List.length_take,Array.length_toList];congr 1;omega
   ·rw [if_neg (by omega),List.getElem?_append_right (by simp [hYl];omega)];have e1:(List.take (oo+xs.length*es) arr.toList++YV).length=oo+xs.length*es+ys.length*es:=by simp [hYl];omega
    rw [e1,List.getElem?_drop,hYl];simp only [Array.getElem?_toList];congr 1;omega
 have ha':(w.setRow b arr').heap[b]? = some (.cells arr' ty (0,0)):=setRow_heap w _ arr arr' ty _ ha;have hwk:=setRow_wkeep ha hasz;obtain ⟨_,arrB,tyB,kB1,kB2⟩:=hr1.nodes _ _ _ hnB;rw [hm3s',ha] at kB1;cases kB1;have hfk:FKeep w (w.setRow b arr') m2.fz:=by
  intro b' off u hb' hc';have hne:b'≠b:=fun e=>hloX.2 (e▸hb');exact (World.cell?_of_block (a:=⟨b',off,none⟩) (setRow_other _ _ _ _ hne)).trans hc'
 have hr2:=hr1.put (h':=hB) (w':=w.setRow b arr') (arr:=arr) (arr':=arr') (ty:=ty) hnB (setRow_below hr.below hloX.1 arr') (by rw [setRow_size];exact Nat.le_refl _)
  (fun k hk _=>setRow_other _ _ _ _ (by rw [hm3s'] at hk;exact hk)) hwk (by rw [hm3s'];exact ha) (by rw [hm3s'];exact ha') (fun _ _=>none) (xs':=xs) (fun i e he=>(kB2 i e he).1)
  (fun i j e c he hc=>by
    obtain ⟨k1,k2⟩:=kB2 i e he;obtain ⟨k3,u,k4,k5,k6⟩:=k2 j c hc;rw [hm3s'] at k4 ⊢;have hjl:j<es:=by rw [←k1];exact List.lt_of_some hc
    have hil:=List.lt_of_some he;have:(i+1)*es≤xs.length*es:=Nat.mul_le_mul_right _ hil;rw [Nat.add_mul] at this;refine ⟨k3,u,?_,k5,.inr (.inl ⟨rfl,⟨e,he,hc⟩,k4⟩)⟩;rw [hget,if_neg (by omega)];exact k4)
  (fun _ _ _ _ h=>by cases h) (fun _ _ _ _ _ _ _ _ h=>by cases h) (.inl rfl) (fun r2 o2 _ ho2 _=>⟨o2,ho2,rfl,fun _ _ _ _ h=>by cases h⟩)
  ⟨{ st:=0,ss:=0,c:=.own es xs },{ st:=0,ss:=0,c:=.own es xs },by simp only [hB];rw [List.getElem?_append_left (by simpa using hsl),List.getElem?_set_self hsl],by simp only [hB];rw [List.getElem?_append_left (by simpa using hsl),List.getElem?_set_self hsl],F7 _ _⟩
 rw [Lo (fun _ _=>rfl)] at hr2;let G:List AV:=ys.map fun _=>.agg (List.replicate es .gone);have hGl:G.length=ys.length:=by simp [G]
 let hC:List Ob:=(h2.set s { st:=0,ss:=0,c:=.own es (xs++G) })++[Y,gob];have hYone:=hYc.one;have hr3:=hr2.grow (h':=hC) hnB ⟨_,by simp only [hC];rw [List.getElem?_append_left (by simpa using hsl),List.getElem?_set_self hsl],rfl⟩
  (fun i e he=>by
    simp only [G,List.getElem?_map] at he;cases hx:ys[i]? with
    | none=>simp [hx] at he
    | some e' =>
      simp [hx] at he;subst he;refine ⟨by simp [AV.cells],fun j d hd=>?_⟩;simp only [AV.cells] at hd;exact (List.eq_of_mem_replicate (List.mem_of_getElem? hd)))
  ⟨arr',ty,by show (w.setRow b arr').heap[(m3.blk s []).1]? = _;rw [hm3s'];exact ha',by show (m3.blk s []).2+_≤_;rw [hm3s',hGl,hasz];simp only;omega,fun j u h1 h2 hu=>by
   simp only [hm3s',hGl] at h1 h2;rw [hget,if_pos ⟨h1,by omega⟩] at hu;exact hYone _ _ hu⟩
  (fun r2 o2 hne ho2 hi=>⟨o2,by
    simp only [hC] at ho2;simp only [hB];rcases Nat.lt_or_ge r2 h2.length with hlt|hge
    ·rw [List.getElem?_append_left (by simpa using hlt),List.getElem?_set_ne (fun h=>hne h.symm)] at ho2;rw [List.getElem?_append_left (by simpa using hlt),List.getElem?_set_ne (fun h=>hne h.symm)];exact ho2
    ·rw [List.getElem?_append_right (by simpa using hge)] at ho2;rw [List.getElem?_append_right (by simpa using hge)];simpa using ho2,rfl⟩)
 have hnC:nodeAt hC s []=some (.own es (xs++G)):=Ac.2 ⟨_,by simp only [hC];rw [List.getElem?_append_left (by simpa using hsl),List.getElem?_set_self hsl],nav_nil _⟩;have hYo:hC[N]? = some Y:=by simp only [hC];rw [List.getElem?_append_right (by simp;omega)];simp [hN]
 let tf:Nat→Nat→Option (Nat×Path):=fun i j=>if xs.length≤i then match (ys[i-xs.length]?).bind (·.cells[j]?) with
  | some d=>if isNode d=true then some (N,[(i-xs.length,j)]) else none
  | none=>none
  else none
 have htf:∀i j T q,tf i j=some (T,q)→xs.length≤i∧T=N∧q = [(i-xs.length,j)]:=by
  intro i j T q h;simp only [tf] at h;split at h
  ·rename_i hge;split at h
   ·split at h
    ·cases h;exact ⟨hge,rfl,rfl⟩
    ·cases h
   ·cases h
  ·cases h
 have hput:=hr3.put (h':=h2.set s { st:=ob.st+1,ss:=0,c:=.own es (xs++ys) }) (w':=w.setRow b arr') (arr:=arr') (arr':=arr') (ty:=ty) hnC hr3.below (Nat.le_refl _) (fun _ _ _=>rfl) (WKeep.refl _)
  (by show (w.setRow b arr').heap[(m3.blk s []).1]? = _;rw [hm3s'];exact ha') (by show (w.setRow b arr').heap[(m3.blk s []).1]? = _;rw [hm3s'];exact ha') tf (xs':=xs++ys)
  (fun i e he=>by
    rcases app_get (es:=es) he with ⟨_,h⟩|⟨_,h⟩
    ·exact (kB2 i e h).1
    ·exact hYc.es _ e h) ?_ ?_ ?_ (.inl rfl) ?_ ?_
 rotate_left
 ·intro i j e c he hc;show c.one=true∧∃v,arr'[(m3.blk s []).2+(i*es+j)]? = some v∧_;rw [hm3s'];rcases app_get (es:=es) he with ⟨hlt,hx⟩|⟨hge,hy⟩
  ·obtain ⟨k1,k2⟩:=kB2 i e hx;obtain ⟨k3,u,k4,k5,k6⟩:=k2 j c hc;rw [hm3s'] at k4;have hjl:j<es:=by rw [←k1];exact List.lt_of_some hc
   have:(i+1)*es≤xs.length*es:=Nat.mul_le_mul_right _ hlt;rw [Nat.add_mul] at this;have k4':arr'[oo+(i*es+j)]? = some u:=by rw [hget,if_neg (by omega)];exact k4
   refine ⟨k3,u,k4',k5,.inr (.inl ⟨?_,⟨e,by rw [List.getElem?_append_left hlt];exact hx,hc⟩,k4'⟩)⟩;simp only [tf];rw [if_neg (by omega)]
  ·obtain ⟨u,k1,k2,k3,k4⟩:=hYc.cell (i-xs.length) j e c hy hc;have hjl:j<es:=by rw [←hYc.es _ e hy];exact List.lt_of_some hc
   have hil:=List.lt_of_some hy;have hm:(i-xs.length+1)*es≤ys.length*es:=Nat.mul_le_mul_right _ hil;rw [Nat.add_mul] at hm;have hi2:i*es=xs.length*es+(i-xs.length)*es:=by rw [←Nat.add_mul];congr 1;omega
   have k1':arr'[oo+(i*es+j)]? = some u:=by
    rw [hget,if_pos (by omega),←k1];congr 1;omega
   refine ⟨k2,u,k1',k3,?_⟩;have hmono:∀(hb:isNode c=true→m3.blk N [(i-xs.length,j)]=m2.blk N [(i-xs.length,j)]),True:=fun _=>trivial;rcases k4 with ⟨k4,k5⟩|⟨k4,k5,k6⟩
   ·refine .inl ⟨?_,k4,k5.mono hwk hfk (fun _ h=>by rw [hm3f];exact h) (fun h=>by rw [k4] at h;cases h)⟩;simp only [tf];rw [if_pos hge,hy];simp [hc,k4]
   ·refine .inr (.inr ⟨N,[(i-xs.length,j)],?_,?_,k5,?_⟩)
    ·simp only [tf];rw [if_pos hge,hy];simp [hc,k5]
    ·refine Ac.2 ⟨Y,hYo,?_⟩;rw [hY k4];exact (AF ..).2 ⟨es,ys,e,c,rfl,hy,hc,nav_nil _⟩
    ·refine k6.mono hwk hfk (fun _ h=>by rw [hm3f];exact h) (fun _=>?_);rw [hm3b];exact hm3ne _ _ (by omega)
 ·intro i j T q h;obtain ⟨_,rfl,_⟩:=htf i j T q h;omega
 ·intro i j i' j' T q T' q' e1 e2 hne;obtain ⟨a1,rfl,rfl⟩:=htf _ _ _ _ e1;obtain ⟨b1,rfl,rfl⟩:=htf _ _ _ _ e2;have key:∀(u v:Nat),u=i-xs.length→v=i'-xs.length→u=v→j=j'→False:=fun u v e1 e2 e3 e4=>hne (by
   have:i=i':=by omega
   rw [this,e4])
  refine .inr ⟨fun h=>?_,fun h=>?_⟩
  ·simp at h;exact key _ _ rfl rfl h.1 h.2
  ·simp at h;exact key _ _ rfl rfl h.1.symm h.2.symm
 ·intro r2 o2 hne ho2 hi2;rw [List.getElem?_set_ne (fun h=>hne h.symm)] at ho2;have hlt2:=List.lt_of_some ho2;refine ⟨o2,?_,rfl,fun i' j' T q h=>?_⟩
  ·simp only [hC];rw [List.getElem?_append_left (by simpa using hlt2),List.getElem?_set_ne (fun h=>hne h.symm)];exact ho2
  ·obtain ⟨_,rfl,_⟩:=htf i' j' T q h;omega
 ·exact ⟨_,_,by simp only [hC];rw [List.getElem?_append_left (by simpa using hsl),List.getElem?_set_self hsl],by rw [List.getElem?_set_self hsl],F7 _ _⟩
 refine ⟨_,hput,HStep.new hnew (fun r p hne hlt=>?_),hm3f,?_,by simp,hloX.2⟩
 ·show putBlk { blk:=m3.blk,fz:=m3.fz } s [] tf r p=_;rw [HU hne];show m3.blk r p=_;rw [hm3b];exact hm3ne r p hne
 ·show putBlk { blk:=m3.blk,fz:=m3.fz } s [] tf s []=_;rw [DY];exact hm3s'
theorem Ajg (ht:TR w m σ.h L σ.t a.tmps)(hr:Rel w0 fz0 m σ.h w){args:Array Operand}{ts:Array TypeId}{t u e e':TypeId}{x y:Operand}{x' y':Opd}{s:Nat}{inf:TypeInfo}{z:AV}
 (ho:o.op = .call { callee:=.builtin .append,args:=args,argTypes:=ts }) (has:args.toList = [x,y]) (hts:ts.toList = [t,u])
 (hut:P.underlying t=some (.slice e)) (huu:P.underlying u=some (.slice e')) (hi:P.info? e=some inf) (hz:KL P e=some z) (hzl:z.cells.length=inf.size) (hpos:0<inf.size) (h1:opd x=some x') (h2:opd y=some y')
 (hx:ax base (.app s inf.size inf.bytes x' y') σ=some (v,h')):OpOk P o a w0 fz0 m σ.h w L v h':=by
 have hb:=ht.get (a:=a) h1;have hd:=ht.get (a:=a) h2;obtain ⟨d,zv,hi',hzv,hov⟩:=Eb hz;rw [hi] at hi';cases hi';obtain ⟨z1,z2⟩:=EH (w:=w) (fz:=m.fz) hov;have eargs:args = #[x,y]:=by apply Array.toList_inj.1;simpa using has
 have ets:ts = #[t,u]:=by apply Array.toList_inj.1;simpa using hts
 subst eargs;subst ets;simp only [ax] at hx;cases hyk:appY σ.h inf.size (σ.get y') with
 | none=>simp [hyk] at hx
 | some yh =>
   obtain ⟨ys,hh1⟩:=yh;simp only [hyk] at hx;cases hxk:appX hh1 inf.size (σ.get x') with
   | none=>simp [hxk] at hx
   | some xh =>
     obtain ⟨xs,hh2⟩:=xh;simp only [hxk] at hx;have hexec:∀(c:Value) (w':World),(Builtin.append_ #[t,u] o.type #[a.eval x,a.eval y]).run P w = .ok c w'→(execOp a.eval o).run P w = .ok (.value c) w':=by
      intro c w' h;simp [execOp,ho,resolve,invoke,builtin,h]
     have hposs:=hpos
     ·obtain ⟨m1,Y,YV,moved,hfz1,hr1,hl1,hst1,hbk1,hrd,hyok,hmv⟩:=AaR (L:=L) hpos hr hd hyk;have hb1:VRel w m1.fz (RefR w m1 hh1 L) (σ.get x') (a.eval x):=hb.mono (fun _ _ _ _ h=>h) (fun b hb=>hfz1▸hb) (fun v c hrr=>RefR.mono (WKeep.refl w) hst1 (fun _ _ h=>h) hrr);obtain ⟨m2,X,hfz2,hr2,hl2,hst2,hbk2,A,cap,eA,hcase⟩:=Aba (L:=L) hpos hr1 hb1 hxk;have hyok2:YOk w m2 σ.h.length inf.size ys YV moved:=⟨fun i j e c he hc=>by
       obtain ⟨u,k1,k2,k3,k4⟩:=hyok.cell i j e c he hc;have hmb:m2.blk σ.h.length [(i,j)]=m1.blk σ.h.length [(i,j)]:=hbk2 _ _ (by omega);refine ⟨u,k1,k2,k3,k4.imp (fun ⟨g1,g2⟩=>⟨g1,g2.mono (WKeep.refl w) (FKeep.refl w _) (fun _ h=>by rw [hfz2];exact h) (fun _=>hmb)⟩) (fun ⟨g1,g2,g3⟩=>⟨g1,g2,g3.mono (WKeep.refl w) (FKeep.refl w _) (fun _ h=>by rw [hfz2];exact h) (fun _=>hmb)⟩)⟩,hyok.es,hyok.one⟩
      have hN2:hh2.length=σ.h.length:=by omega
      split at hx
      ·-- nothing is appended to nothing
       rename_i hemp;have hxs:xs = []:=by simpa using hemp.1
       have hys:ys = []:=by simpa using hemp.2
       subst hxs;subst hys;have hrun:(Builtin.append_ #[t,u] o.type #[a.eval x,a.eval y]).run P w = .ok (a.eval x) w:=by
        rw [eA];have hYV:YV = []:=List.eq_nil_of_length_eq_zero (by rw [hrd.1];simp);subst hYV;exact Oj (n:=0) (k:=0) hut huu hi hrd (Nat.zero_le _) (fun A' _=>by simp [storeCells]) (fun _=>rfl)
       have hfin:∀v0,VRel w m2.fz (RefR w m2 hh2 L) v0 (a.eval x)→OpOk P o a w0 fz0 m σ.h w L v0 hh2:=fun v0 hv0 =>
        ⟨a.eval x,w,m2,.inl (hexec _ _ hrun),hr2.drop2,hst1.trans hst2,WKeep.refl w,FKeep.refl w _,fun b h=>by rw [hfz2,hfz1];exact h,hN2,hv0⟩
       rcases hcase with ⟨_,_,_,_,_,hk⟩|⟨r,st,p,ss,off,len,e1,_⟩
       ·rcases hk with ⟨e1,_⟩|e1|e1
        ·rw [e1] at hx hb;cases hx;exact hfin _ (by rw [hb.inv_nils];exact .base _ _ .nils)
        ·rw [e1] at hx hb;cases hx;obtain ⟨A',eA'⟩:=hb.inv_emp;exact hfin _ (by rw [eA'];exact .base _ _ (.emp _))
        ·rw [e1] at hx hb;cases hx;refine hfin _ ?_;rcases hb.inv_lst with ⟨_,eA'⟩|⟨A',cap',es',vs',eA',hh⟩
         ·rw [eA'];exact .base _ _ .lstn
         rw [eA'];exact .base _ _ (.lst [] A' cap' 0 (fun _ _=>undef) (by simp) (fun h=>by simp at h) (fun i e h=>by simp at h) (fun i e j c h=>by simp at h) (fun i e j c h=>by simp at h))
       ·rw [e1] at hx;cases hx
      ·rename_i hemp;split at hx
       ·rename_i hcond;obtain ⟨hmax,hby0,hby,_,hnl⟩:=hcond;have hdiv:=Nat.div_le_self 32768 inf.bytes;cases hnew:newOb hh2 (base+s) (.own inf.size (xs++ys)) with
        | none=>simp [hnew] at hx
        | some hs =>
          obtain ⟨hf,st⟩:=hs;simp only [hnew,Option.some.injEq,Prod.mk.injEq] at hx;obtain ⟨rfl,rfl⟩:=hx;have hne:0<xs.length+ys.length:=by
           rcases Nat.eq_zero_or_pos (xs.length+ys.length) with h0|h0
           ·exfalso;have h1:xs = []:=List.eq_nil_of_length_eq_zero (by omega);have h2:ys = []:=List.eq_nil_of_length_eq_zero (by omega);exact hemp (by simp [h1,h2])
           ·exact h0
          have hXV:∃XV:List Value,XV.length=xs.length*inf.size∧(∀w':World,w'.heap=w.heap→(Builtin.firstCells inf.size xs.length (a.eval x)).run P w' = .ok XV.toArray w') ∧
           (∀(i:Nat) (e:AV),xs[i]? = some e→e.cells.length=inf.size) ∧
           (∀(i j:Nat) (e c:AV),xs[i]? = some e→e.cells[j]? = some c→e.cells.length=inf.size∧c.one=true∧∃u,XV[i*inf.size+j]? = some u∧u.oneCell'=true∧CellR w m2 (σ.h.length+1) [(i,j)] c u):=by
           rcases hcase with ⟨rfl,_,_,_,_,_⟩|⟨r,st,p,ss,off,len,e1,hXc,hle,hsome,hk⟩
           ·refine ⟨[],by simp,fun w' _=>?_,fun i e h=>by simp at h,fun i j e c h=>by simp at h⟩;rw [eA];cases A with
            | none=>simp [Builtin.firstCells]
            | some A'=>simp [Builtin.firstCells,loadCells,loadCellsFrom]
           ·have hnX:nodeAt (hh2++[Y,X]) (hh1.length+1) []=some (.own inf.size xs):=Ac.2 ⟨X,by rw [List.getElem?_append_right (by omega)];simp [hl2],by rw [nav_nil,hXc]⟩;obtain ⟨_,arr,ty,k1,k2⟩:=hr2.nodes _ _ _ hnX;rcases Nat.eq_zero_or_pos xs.length with h0|h0
            ·have:xs = []:=List.eq_nil_of_length_eq_zero h0;subst this;refine ⟨[],by simp,fun w' _=>?_,fun i e h=>by simp at h,fun i j e c h=>by simp at h⟩;rw [eA];cases A with
             | none=>simp [Builtin.firstCells]
             | some A'=>simp [Builtin.firstCells,loadCells,loadCellsFrom]
            ·rcases hk with hk|⟨rfl,arr2,ty2,k3,k4⟩
             ·omega
             ·rw [k1] at k3;cases k3;generalize hbo:m2.blk (hh1.length+1) []=bo at *;let XV:List Value:=(arr.toList.drop bo.2).take (xs.length*inf.size);have hmul:xs.length*inf.size≤cap*inf.size:=Nat.mul_le_mul_right _ hle;have hXg:∀k,k<xs.length*inf.size→XV[k]? = arr[bo.2+k]? := fun k hk=>by
               simp only [XV];rw [List.getElem?_take,if_pos hk,List.getElem?_drop,Array.getElem?_toList]
              have hXVl:XV.length=xs.length*inf.size:=by simp [XV];omega
              refine ⟨XV,hXVl,?_,fun i e he=>(k2 i e he).1,fun i j e c he hc=>?_⟩
              ·rw [eA];have hrdx:=Lw (P:=P) (w:=w) (A:=⟨bo.1,bo.2,none⟩) rfl (n:=xs.length) (cap:=cap) (es:=inf.size) XV hXVl (fun k u hk=>by
                have hlt:=List.lt_of_some hk;rw [hXVl] at hlt;rw [hXg k hlt] at hk;simp only [World.cell?,k1];simpa using hk)
               obtain ⟨_,_,_,_,hrun⟩:=hrdx;exact hrun
              ·obtain ⟨g1,g2⟩:=k2 i e he;obtain ⟨g3,u,g4,g5,g6⟩:=g2 j c hc;have hjl:j<inf.size:=by rw [←g1];exact List.lt_of_some hc
               have hil:=List.lt_of_some he;have:(i+1)*inf.size≤xs.length*inf.size:=Nat.mul_le_mul_right _ hil;rw [Nat.add_mul] at this;refine ⟨g1,g3,u,?_,g5,?_⟩
               ·rw [hXg _ (by omega)];exact g4
               ·rw [←hl1];exact g6
          obtain ⟨XV,hXl,hXrun,hXe,hXc⟩:=hXV;by_cases hroom:xs.length+ys.length≤cap
          ·-- in place
           rcases hcase with ⟨rfl,_,_,hc0,_,_⟩|⟨r,st',p,ss,off,len,e1,hXcc,hle,hsome,hk⟩
           ·have:=hc0 hnl;omega
           ·rcases hk with hk|⟨rfl,arr,ty,k3,k4⟩
            ·omega
            ·rw [hl1] at k3 k4;obtain ⟨m3,hr3,hst3,hfz3,hbk3,hl3,hnf⟩:=Zv (YV:=YV) (moved:=moved) hpos hr2 hN2 hXcc hmv hrd.1 hyok2 rfl k3 k4 hroom hnew;have hst:=run_storeCells_at (P:=P) (m2.blk (σ.h.length+1) []).1 ((m2.blk (σ.h.length+1) []).2+xs.length*inf.size) ty YV 0 arr w k3 (by
              have:(xs.length+ys.length)*inf.size≤cap*inf.size:=Nat.mul_le_mul_right _ hroom;rw [Nat.add_mul] at this;rw [hrd.1];omega) (fun u hu=>by obtain ⟨k,hk⟩:=List.mem_get hu;exact hyok.one k u hk)
             simp only [Nat.add_zero] at hst;have hrun:=Oj (A:=some ⟨(m2.blk (σ.h.length+1) []).1,(m2.blk (σ.h.length+1) []).2,none⟩) (ty:=o.type) hut huu hi hrd hroom (fun A' hA'=>by
              cases hA';rw [Addr.add_none];exact hst) (fun h=>by cases h)
             have hmul:(xs.length+ys.length)*inf.size≤cap*inf.size:=Nat.mul_le_mul_right _ hroom;have hasz:(arr.toList.take ((m2.blk (σ.h.length+1) []).2+xs.length*inf.size)++YV++arr.toList.drop ((m2.blk (σ.h.length+1) []).2+xs.length*inf.size+YV.length)).toArray.size=arr.size:=by
              rw [Nat.add_mul] at hmul;simp [hrd.1];omega
             refine ⟨_,_,m3,.inl (hexec _ _ (by rw [eA,hl1];exact hrun)),hr3,(hst1.trans hst2).trans hst3,setRow_wkeep k3 hasz,?_,fun b h=>by rw [hfz3,hfz2,hfz1];exact h,by rw [hl3,hN2],?_⟩
             ·intro b off u hb' hc';have hne:b≠(m2.blk (σ.h.length+1) []).1:=fun e=>hnf (by rw [←e,hfz2,hfz1];exact hb');exact (World.cell?_of_block (a:=⟨b,off,none⟩) (setRow_other _ _ _ _ hne)).trans hc'
             ·obtain ⟨ob,hob,_,rfl,rfl⟩:=A9 hnew;refine .ref _ _ rfl ⟨_,List.getElem?_set_self (List.lt_of_some hob),Nat.le_refl _,fun _ h=>absurd rfl h,fun es' xs' hn=>?_⟩;obtain ⟨o',q1,_,_,q2⟩:=Bf.1 hn;rw [List.getElem?_set_self (List.lt_of_some hob)] at q1;cases q1;rw [nav_nil] at q2;cases q2;refine ⟨by simp,_,cap,rfl,hroom,.inr ⟨by rw [hbk3];simp,_,ty,by rw [hbk3];exact setRow_heap w _ arr _ ty _ k3,?_⟩⟩;rw [hbk3,hasz];simp only [Nat.zero_add];exact k4
          ·-- a new array
           have hgrow:cap<xs.length+ys.length:=by omega
           have hrun:=V2 (ty:=o.type) hut huu hi hzv eA hXrun hrd hgrow hmax hby hby0;have hCge:=Xz w (xs.length+ys.length) cap e (by omega);generalize grownCap w (xs.length+ys.length) cap e=C at hrun hCge;have hzs:zv.cells.size=inf.size:=by rw [z1,hzl]
           have hone0:∀(j:Nat) (u:Value),zv.cells[j]? = some u→u.oneCell'=true:=fun j u hu=>by
            have hlt:j<z.cells.length:=by rw [←z1];exact (Array.getElem?_eq_some_iff.1 hu).1
            exact (z2 j _ u (List.getElem?_eq_getElem hlt) hu).2.1
           have hUs:(XV.toArray++YV.toArray++Builtin.zeroCells zv.cells (C-(xs.length+ys.length))).size=C*inf.size:=by
            simp only [Array.size_append,List.size_toArray,hXl,hrd.1,size_zeroCells,hzs];rw [←Nat.add_mul,←Nat.add_mul];congr 1;omega
           have hUg:∀k,k<(xs.length+ys.length)*inf.size→(XV.toArray++YV.toArray++Builtin.zeroCells zv.cells (C-(xs.length+ys.length)))[k]? = (XV++YV)[k]? := fun k hk=>by
            rw [Array.getElem?_append_left (by simp [hXl,hrd.1];rw [←Nat.add_mul];exact hk)];rw [←Array.getElem?_toList];simp
           have hUone:∀(k:Nat) (u:Value),(XV.toArray++YV.toArray++Builtin.zeroCells zv.cells (C-(xs.length+ys.length)))[k]? = some u→u.oneCell'=true:=fun k u hk=>by
            rcases Nat.lt_or_ge k ((xs.length+ys.length)*inf.size) with hlt|hge
            ·rw [hUg k hlt] at hk;rcases Nat.lt_or_ge k XV.length with h3|h3
             ·rw [List.getElem?_append_left h3] at hk;rw [hXl] at h3;have e1:k=(k / inf.size)*inf.size+k % inf.size:=by rw [Nat.mul_comm];exact (Nat.div_add_mod k _).symm
              have e2:k / inf.size<xs.length:=Nat.div_lt_of_lt_mul (by rw [Nat.mul_comm];exact h3);have e3:=Nat.mod_lt k hpos;have hj2:k % inf.size<(xs[k / inf.size]).cells.length:=by rw [hXe _ _ (List.getElem?_eq_getElem e2)];exact e3
              obtain ⟨_,_,u',q1,q2,_⟩:=hXc _ _ _ _ (List.getElem?_eq_getElem e2) (List.getElem?_eq_getElem hj2);rw [←e1,hk] at q1;cases q1;exact q2
             ·rw [List.getElem?_append_right h3] at hk;exact hyok.one _ u hk
            ·rw [Array.getElem?_append_right (by simp [hXl,hrd.1];rw [←Nat.add_mul];exact hge)] at hk;simp only [Builtin.zeroCells,Array.getElem?_map,Option.map_eq_some_iff] at hk;obtain ⟨q,_,rfl⟩:=hk;have hq:q % zv.cells.size<zv.cells.size:=Nat.mod_lt _ (by omega);rw [getElem!_pos zv.cells _ hq];exact hone0 _ _ (Array.getElem?_eq_getElem hq)
           obtain ⟨m3,hr3,hst3,hfz3,hbk3,hl3⟩:=Zs (XV:=XV) (YV:=YV) (moved:=moved) (U:=XV.toArray++YV.toArray++Builtin.zeroCells zv.cells (C-(xs.length+ys.length))) (ty:=e) (w':=w.drew.alloc (.cells (XV.toArray++YV.toArray++Builtin.zeroCells zv.cells (C-(xs.length+ys.length))) e)) hpos hr2 hN2
            (by rcases hcase with ⟨h,_⟩|⟨_,_,_,_,_,_,_,h,_⟩;exact .inl h;exact .inr h) hmv hXl hrd.1 hXc hXe hyok2 hUone (by rw [hUs];exact Nat.mul_le_mul_right _ hCge) hUg hnew (hr.below.drew.alloc hr.below.size _) (by rw [alloc_size];show w.heap.size<w.heap.size+1;omega) (fun k hk=>Below.heap_alloc w.drew _ k hk) (EP w.drew _)
           refine ⟨_,_,m3,.inl (hexec _ _ hrun),hr3,(hst1.trans hst2).trans hst3,⟨fun b arr ty hh=>⟨arr,by rw [Below.heap_alloc w.drew _ _ (Array.getElem?_eq_some_iff.1 hh).1];exact hh,rfl⟩,fun b ents clock hh=>⟨ents,clock,by rw [Below.heap_alloc w.drew _ _ (Array.getElem?_eq_some_iff.1 hh).1];exact hh,fun i e he=>⟨e,he,rfl⟩⟩,fun b o hh _=>by rw [Below.heap_alloc w.drew _ _ (Array.getElem?_eq_some_iff.1 hh).1];exact hh,by rw [alloc_size];exact Nat.le_succ _⟩,?_,fun b h=>by rw [hfz3,hfz2,hfz1];exact h,by rw [hl3,hN2],?_⟩
           ·intro b off u hb' hc';exact (World.cell?_of_block (a:=⟨b,off,none⟩) (Below.heap_alloc w.drew _ b (hr.fzlt b hb'))).trans hc'
           ·exact Acs hnew hbk3 (by simp) hCge (EP w.drew _) (by rw [hUs];exact Nat.le_refl _)
       ·cases hx
theorem setRow_selfM {w:World}{g:Nat}{arr:Array Value}{ty:TypeId}{fr:Nat×Nat}(hg:w.heap[g]? = some (.cells arr ty fr)):w.setRow g arr=w:=by
 obtain ⟨hlt,hv⟩:=Array.getElem?_eq_some_iff.1 hg;have:(w.setRow g arr).heap=w.heap:=by
  unfold World.setRow;apply Array.ext (by simp);intro i h1 h2;simp only [Array.getElem_modify];split
  ·rename_i e;subst e;rw [hv]
  ·rfl
 cases w;simp only [World.setRow] at this ⊢;rw [this]
theorem BP {e:AV}(h:e.plain=true):e.cells = [e]:=by cases e<;>first|rfl|(simp [AV.plain] at h)
theorem AaC {h:List Ob}{y:AV}{c:Value}{ys:List AV}(hr:Rel w0 fz0 m h w)(hv:VRel w m.fz (RefR w m h L) y c)(hk:Ah1 h y=some ys) :
 (∀x∈ys,x.plain=true)∧∃A cap,c = .slice A ys.length cap∧(ys = []∨∃B:Addr,A=some B∧B.spot=none∧∀(k:Nat) (x:AV),ys[k]? = some x→∃u,w.cell? ⟨B.block,B.off+k,none⟩=some u∧u.oneCell'=true∧VRel0 w m.fz x u):=by
 unfold Ah1 at hk;split at hk
 ·cases hk;exact ⟨by simp,none,0,hv.inv_nils,.inl rfl⟩
 ·cases hk;obtain ⟨A,e⟩:=hv.inv_emp;exact ⟨by simp,A,0,e,.inl rfl⟩
 ·cases hk;obtain ⟨A,cap,e⟩:=hv.inv_ne;exact ⟨by simp,some A,cap,e,.inl rfl⟩
 ·rename_i ys0;split at hk
  ·rename_i hall;cases hk;have hp:∀x∈ys,x.plain=true:=by simpa using hall
   refine ⟨hp,?_⟩;rcases hv.inv_lst with ⟨h0,e⟩|⟨A,cap,es0,vs,eA,hcap,hfz,hes,hc,hrel⟩
   ·subst h0;exact ⟨none,0,e,.inl rfl⟩
   ·refine ⟨some A,cap,eA,?_⟩;rcases Nat.eq_zero_or_pos ys.length with h0|h0
    ·exact .inl (List.eq_nil_of_length_eq_zero h0)
    ·refine .inr ⟨A,rfl,(hfz h0).2,fun k x hx=>?_⟩;have hcx:=BP (hp x (List.mem_of_getElem? hx));have he1:es0=1:=by have:=hes k x hx;rw [hcx] at this;simpa using this.symm
     have hx0:x.cells[0]? = some x:=by rw [hcx];rfl
     obtain ⟨g1,g2,g3⟩:=hc k x 0 x hx hx0;rw [he1] at g3;exact ⟨_,by simpa using g3,g2,hrel k x 0 x hx hx0⟩
  ·cases hk
 ·rename_i r st p ss off len;split at hk
  ·rename_i es' zs hnd;split at hk
   ·rename_i hc;obtain ⟨rfl,hle,hall⟩:=hc;cases hk;have hp:∀x∈zs,x.plain=true:=by simpa using hall
    have hl:((zs.drop off).take len).length=len:=by simp;omega
    obtain ⟨ob,g1,g2,g3,g4⟩:=hv.inv_ref rfl;obtain ⟨g5,A,cap,eA,hcap,g6⟩:=g4 _ _ hnd;obtain ⟨hp0,arr,ty,ha,hcells⟩:=hr.nodeF hnd;refine ⟨fun x hx=>hp x (List.mem_of_mem_drop (List.mem_of_mem_take hx)),some A,cap,by rw [hl];exact eA,?_⟩;rcases Nat.eq_zero_or_pos len with h0|h0
    ·left;subst h0;simp
    ·right;have hA:A=⟨(m.blk r p).1,(m.blk r p).2+off*1,none⟩:=by
      rcases g6 with g6|g6
      ·omega
      ·exact g6.1
     refine ⟨A,rfl,by rw [hA],fun k x hx=>?_⟩;rw [List.getElem?_take] at hx;split at hx
     ·rw [List.getElem?_drop] at hx;obtain ⟨k1,k2⟩:=hcells (off+k) x hx;have hcx:=BP (hp x (List.mem_of_getElem? hx));obtain ⟨k3,u,k4,k5,k6⟩:=k2 0 x (by rw [hcx];rfl);refine ⟨u,?_,k5,?_⟩
      ·rw [hA];simp only [World.cell?,ha];have e1:(m.blk r p).2+off*1+k=(m.blk r p).2+((off+k)*1+0):=by omega
       rw [e1,k4];rfl
      ·have hnn:=(C4 (hp x (List.mem_of_getElem? hx))).2;cases x<;>first|exact k6|(simp [isNode] at hnn;done)|(have:=hp _ (List.mem_of_getElem? hx);simp [AV.plain] at this;done)
     ·cases hx
   ·cases hk
  ·cases hk
 ·cases hk
theorem ok_cpy (ht:TR w m σ.h L σ.t a.tmps)(hr:Rel w0 fz0 m σ.h w){args:Array Operand}{ts:Array TypeId}{t u e:TypeId}{x y:Operand}{x' y':Opd}
 (ho:o.op = .call { callee:=.builtin .copy,args:=args,argTypes:=ts }) (has:args.toList = [x,y]) (hts:ts.toList = [t,u])
 (hut:P.underlying t=some (.slice e)) (hn:szT P e=some 1) (h1:opd x=some x') (h2:opd y=some y')
 (hx:ax base (.cpy x' y') σ=some (v,h')):OpOk P o a w0 fz0 m σ.h w L v h':=by
 have hb:=ht.get (a:=a) h1;have hd:=ht.get (a:=a) h2;have eargs:args = #[x,y]:=by apply Array.toList_inj.1;simpa using has
 have ets:ts = #[t,u]:=by apply Array.toList_inj.1;simpa using hts
 subst eargs;subst ets;simp only [ax] at hx;generalize hg:σ.get x'=g at hx hb;cases g<;>simp only [reduceCtorEq] at hx;rename_i r st p ss off len;split at hx
 ·rename_i es xs ys hnd hcy;split at hx
  ·rename_i hcond;obtain ⟨rfl,hle,hall⟩:=hcond;have hxp:∀z:AV,z∈xs→z.plain=true:=by simpa using hall
   cases hso:setOb σ.h r p (.own 1 (xs.take off++ys.take len++xs.drop (off+min ys.length len))) false with
   | none=>simp only [hso,Option.map_none,reduceCtorEq] at hx
   | some hf =>
     simp only [hso,Option.map_some,Option.some.injEq,Prod.mk.injEq] at hx;obtain ⟨rfl,rfl⟩:=hx;obtain ⟨ob0,b1,b2,b3,b4⟩:=hb.inv_ref rfl;obtain ⟨b5,A,cap,eA,hcap,b6⟩:=b4 _ _ hnd;obtain ⟨hyp,B,bcap,eB,hY⟩:=AaC (L:=L) hr hd hcy;have hnA:nodeAt σ.h r p=some (.own 1 xs):=by
      obtain ⟨o',e1,_,_,e2⟩:=Bf.1 hnd;exact Ac.2 ⟨o',e1,e2⟩
     obtain ⟨hpos,arr,ty,ha,hcells⟩:=hr.nodes _ _ _ hnA;have hlo:=hr.lo _ _ _ hnA rfl;let n:=min ys.length len;have hnl:(ys.take len).length=n:=by simp [n,Nat.min_comm]
     have hV:∃V:List Value,V.length=n∧(∀w':World,w'.heap=w.heap→(Builtin.firstCells 1 n (a.eval y)).run P w' = .ok V.toArray w')∧∀(k:Nat) (z:AV),(ys.take len)[k]? = some z→∃q,V[k]? = some q∧q.oneCell'=true∧VRel0 w m.fz z q:=by
      rcases hY with hy0|⟨B',rfl,hBs,hY⟩
      ·subst hy0;refine ⟨[],by simp [n],fun w' _=>?_,fun k z hz=>by simp at hz⟩;rw [eB];cases B with
       | none=>simp [Builtin.firstCells]
       | some B=>simp [Builtin.firstCells,loadCells,loadCellsFrom,n]
      ·have hex:∀k<n,∃q,∀z,ys[k]? = some z→w.cell? ⟨B'.block,B'.off+k,none⟩=some q∧q.oneCell'=true∧VRel0 w m.fz z q:=by
        intro k hk;obtain ⟨q,hq⟩:=hY k _ (List.getElem?_eq_getElem (show k<ys.length by omega));exact ⟨q,fun z hz=>by rw [List.getElem?_eq_getElem (show k<ys.length by omega)] at hz;cases hz;exact hq⟩
       let V:List Value:=(List.range n).map fun k=>if h:k<n then (hex k h).choose else .nilFunc;have hVl:V.length=n:=by simp [V]
       have hVg:∀k (h:k<n),V[k]? = some (hex k h).choose:=by
        intro k h;simp only [V,List.getElem?_map,List.getElem?_range h,Option.map_some,dif_pos h]
       have hrd:VF P w (.slice (some B') n bcap) n 1 V:=Lw hBs V (by omega) (fun k q hq=>by
        have hk:k<n:=by rw [←hVl];exact List.lt_of_some hq
        rw [hVg k hk] at hq;cases hq;exact ((hex k hk).choose_spec _ (List.getElem?_eq_getElem (show k<ys.length by omega))).1)
       obtain ⟨_,A2,cap2,e2,hf⟩:=hrd;refine ⟨V,hVl,fun w' hw'=>?_,fun k z hz=>?_⟩
       ·rw [eB];exact hf w' hw'
       ·have hk:k<n:=by rw [←hnl];exact List.lt_of_some hz
        rw [List.getElem?_take,if_pos (by omega)] at hz;exact ⟨_,hVg k hk,((hex k hk).choose_spec z hz).2.1,((hex k hk).choose_spec z hz).2.2⟩
     obtain ⟨V,hVl,hVr,hVc⟩:=hV;let o0:=(m.blk r p).2+off;have hcell:∀(i:Nat) (z:AV),xs[i]? = some z→∃q,arr[(m.blk r p).2+i]? = some q∧q.oneCell'=true∧CellR w m r (p++[(i,0)]) z q∧z.one=true:=by
      intro i z hz;obtain ⟨k1,k2⟩:=hcells i z hz;have hcx:=BP (hxp z (List.mem_of_getElem? hz));obtain ⟨k3,q,k4,k5,k6⟩:=k2 0 z (by rw [hcx];rfl);exact ⟨q,by rw [←k4];congr 1;omega,k5,k6,k3⟩
     have hfit:n=0∨o0+n≤arr.size:=by
      rcases Nat.eq_zero_or_pos n with h0|h0
      ·exact .inl h0
      ·right;obtain ⟨q,g2,_⟩:=hcell (off+n-1) _ (List.getElem?_eq_getElem (by omega));have:=(Array.getElem?_eq_some_iff.1 g2).1;omega
     have hone:∀q∈V,q.oneCell'=true:=by
      intro q hq;obtain ⟨k,hk1,hk2⟩:=List.mem_iff_getElem.1 hq;obtain ⟨q',e1,e2,_⟩:=hVc k _ (List.getElem?_eq_getElem (show k<(ys.take len).length by omega));rw [List.getElem?_eq_getElem hk1,hk2] at e1;cases e1;exact e2
     let arr':Array Value:=if n=0 then arr else (arr.toList.take o0++V++arr.toList.drop (o0+n)).toArray;have hrun:(Builtin.copy_ #[t,u] o.type #[a.eval x,a.eval y]).run P w = .ok (.int .i64 (n:Nat)) (w.setRow (m.blk r p).1 arr'):=by
      have hlen2:(Builtin.lenOf (a.eval y)).run P w = .ok ys.length w:=by rw [eB];simp [Builtin.lenOf]
      have hst:(storeCells A V).run P w = .ok () (w.setRow (m.blk r p).1 arr'):=by
       rcases Nat.eq_zero_or_pos n with h0|h0
       ·have:V = []:=List.eq_nil_of_length_eq_zero (by omega);subst this;simp only [arr',if_pos h0];simp [storeCells,setRow_selfM ha]
       ·have hA:A=⟨(m.blk r p).1,o0,none⟩:=by
         rcases b6 with b6|b6
         ·omega
         ·rw [b6.1];simp [o0]
        have:=run_storeCells_at (P:=P) (m.blk r p).1 o0 ty V 0 arr w ha (by omega) hone;rw [hA,this];simp only [arr',Nat.add_zero,hVl];rw [if_neg (by omega)]
      simp only [Builtin.copy_];rw [eA];simp [run_underlying hut,hlen2,Ba hn,hVr w rfl,hst,goInt,n]
     have hxl:(xs.take off).length=off:=by simp;omega
     have hasz:arr'.size=arr.size:=by
      simp only [arr'];split
      ·rfl
      ·simp [hVl];omega
     have ha':(w.setRow (m.blk r p).1 arr').heap[(m.blk r p).1]? = some (.cells arr' ty (0,0)):=setRow_heap w _ arr arr' ty _ ha;have hwk:=setRow_wkeep ha hasz;have hget:∀k,arr'[k]? = if o0≤k∧k<o0+n then V[k-o0]? else arr[k]? := by
      intro k;simp only [arr'];by_cases h0:n=0
      ·rw [if_pos h0,if_neg (by omega)]
      ·rw [if_neg h0];rw [←Array.getElem?_toList];by_cases c1:k<o0
       ·rw [if_neg (by omega),List.append_assoc,List.getElem?_append_left (by simp;omega),List.getElem?_take,if_pos c1];simp
       ·by_cases c2:k<o0+n
        ·rw [if_pos ⟨by omega,c2⟩,List.getElem?_append_left (by simp;omega),List.getElem?_append_right (by simp;omega)];simp only [List.length_take,Array.length_toList];congr 1;omega
        ·rw [if_neg (by omega),List.getElem?_append_right (by simp;omega)];have e1:(List.take o0 arr.toList++V).length=o0+n:=by simp;omega
         rw [e1,List.getElem?_drop];simp only [Array.getElem?_toList];congr 1;omega
     have hrow:∀(i:Nat) (z:AV),(xs.take off++ys.take len++xs.drop (off+n))[i]? = some z→(off≤i∧i<off+n∧(ys.take len)[i-off]? = some z)∨(¬(off≤i∧i<off+n)∧xs[i]? = some z):=by
      intro i z hz;by_cases c1:i<off
      ·rw [List.append_assoc,List.getElem?_append_left (by omega),List.getElem?_take,if_pos c1] at hz;exact .inr ⟨by omega,hz⟩
      ·by_cases c2:i<off+n
       ·rw [List.getElem?_append_left (by simp only [List.length_append,hxl,hnl];exact c2),List.getElem?_append_right (by omega),hxl] at hz;exact .inl ⟨by omega,c2,hz⟩
       ·rw [List.getElem?_append_right (by simp only [List.length_append,hxl,hnl];omega),List.getElem?_drop] at hz;simp only [List.length_append,hxl,hnl] at hz;exact .inr ⟨by omega,by rw [←hz];congr 1;omega⟩
     have hrowl:(xs.take off++ys.take len++xs.drop (off+n)).length=xs.length:=by simp only [List.length_append,hxl,hnl,List.length_drop];omega
     have hrp:∀(i:Nat) (z:AV),(xs.take off++ys.take len++xs.drop (off+n))[i]? = some z→z.plain=true:=by
      intro i z hz;rcases hrow i z hz with ⟨_,_,h⟩|⟨_,h⟩
      ·exact hyp z (List.mem_of_mem_take (List.mem_of_getElem? h))
      ·exact hxp z (List.mem_of_getElem? h)
     obtain ⟨oo,cc,hoo,huu,hff⟩:=Cc hso;have hrl:r<σ.h.length:=List.lt_of_some hoo;have hput:=hr.put (h':=hf) (w':=w.setRow (m.blk r p).1 arr') (arr:=arr) (arr':=arr') (ty:=ty) (xs':=xs.take off++ys.take len++xs.drop (off+n)) hnA (setRow_below hr.below hlo.1 arr') (by rw [setRow_size];exact Nat.le_refl _)
      (fun k hk _=>setRow_other _ _ _ _ hk) hwk ha ha' (fun _ _=>none)
      (fun i z hz=>by rw [BP (hrp i z hz)];rfl)
      (fun i j z c hz hc=>by
        have hzc:=BP (hrp i z hz);rw [hzc] at hc;have hj:j=0:=by have:=List.lt_of_some hc;simpa using this
        subst hj;cases hc;have hnn:=C4 (hrp i z hz);rcases hrow i z hz with ⟨c1,c2,h⟩|⟨c1,h⟩
        ·obtain ⟨q,k1,k2,k3⟩:=hVc _ _ h;refine ⟨hnn.1,q,?_,k2,.inl ⟨rfl,hnn.2,Kb hnn.2 k3⟩⟩;rw [hget,if_pos (by simp only [o0];omega),←k1];congr 1;simp only [o0];omega
        ·obtain ⟨q,k1,k2,k3,k4⟩:=hcell i z h;refine ⟨k4,q,?_,k2,.inr (.inl ⟨rfl,⟨z,h,by rw [hzc];rfl⟩,by rw [←k1];congr 1;omega⟩)⟩;rw [hget,if_neg (by simp only [o0];omega),←k1];congr 1;omega)
      (fun i j T q h=>by cases h) (fun i j i' j' T q T' q' h=>by cases h) (.inr hrowl)
      (fun r2 o2 hne ho2 hi2=>by
        rw [hff,List.getElem?_set_ne (fun h=>hne h.symm)] at ho2;exact ⟨o2,ho2,rfl,fun i j T q h=>by cases h⟩)
      ⟨oo,_,hoo,by rw [hff,List.getElem?_set_self hrl],huu⟩
     have hpb:putBlk m r p (fun _ _=>none)=m.blk:=Lo (fun _ _=>rfl);rw [hpb] at hput;refine ⟨.int .i64 (n:Nat),w.setRow (m.blk r p).1 arr',m,.inl ?_,hput,?_,hwk,?_,fun b hb'=>hb',by rw [hff];simp,.base _ _ (.int _ _)⟩
     ·simp [execOp,ho,resolve,invoke,builtin,hrun]
     ·intro r2 o2 ho2;by_cases er:r2=r
      ·subst er;rw [hoo] at ho2;cases ho2;refine ⟨_,by rw [hff,List.getElem?_set_self hrl],?_⟩;obtain ⟨o',e1,e2⟩:=Ac.1 hnA;rw [hoo] at e1;cases e1;exact BQ.keep huu e2 hrowl (fun i' j' e' d he' hd' hnd'=>by
        rw [BP (hrp i' e' he')] at hd';have hj:j'=0:=by have:=List.lt_of_some hd';simpa using this
        subst hj;cases hd';rw [(C4 (hrp i' e' he')).2] at hnd';cases hnd') (fun q=>rfl)
      ·exact ⟨o2,by rw [hff,List.getElem?_set_ne (fun h=>er h.symm)];exact ho2,BQ.same (fun q nd _ _=>rfl)⟩
     ·intro b off u hb' hc';have hne:b≠(m.blk r p).1:=fun e=>hlo.2 (e▸hb');exact (World.cell?_of_block (a:=⟨b,off,none⟩) (setRow_other _ _ _ _ hne)).trans hc'
  ·cases hx
 ·cases hx
theorem ok_clr (ht:TR w m σ.h L σ.t a.tmps)(hr:Rel w0 fz0 m σ.h w){args:Array Operand}{ts:Array TypeId}{t e:TypeId}{x:Operand}{x':Opd}{zz:AV}
 (ho:o.op = .call { callee:=.builtin .clear,args:=args,argTypes:=ts }) (has:args.toList = [x]) (hts:ts.toList = [t])
 (hut:P.underlying t=some (.slice e)) (hz:KL P e=some zz) (h1:opd x=some x')
 (hx:ax base (.clr zz x') σ=some (v,h')):OpOk P o a w0 fz0 m σ.h w L v h':=by
 have hb:=ht.get (a:=a) h1;have eargs:args = #[x]:=by apply Array.toList_inj.1;simpa using has
 have ets:ts = #[t]:=by apply Array.toList_inj.1;simpa using hts
 obtain ⟨d,zv,hi,hzv,hov⟩:=Eb hz;subst eargs;subst ets;simp only [ax] at hx;generalize hg:σ.get x'=g at hx hb;cases g<;>simp only [reduceCtorEq] at hx
 ·cases hx;refine OpOk.quiet hr (c:=.tuple #[]) ?_ (.tup _ _ rfl (fun j c v h=>by simp at h));simp [execOp,ho,resolve,invoke,builtin,hb.inv_nils,Builtin.clear_,run_underlying hut]
 ·cases hx;obtain ⟨A,eA⟩:=hb.inv_emp;refine OpOk.quiet hr (c:=.tuple #[]) ?_ (.tup _ _ rfl (fun j c v h=>by simp at h));cases A<;>simp [execOp,ho,resolve,invoke,builtin,eA,Builtin.clear_,run_underlying hut]
 rename_i r st p ss off len;split at hx
 ·rename_i es xs hnd;split at hx
  ·rename_i hcond;obtain ⟨rfl,hle,hall,hzp⟩:=hcond;have hzzc:=BP hzp;have hxp:∀z:AV,z∈xs→z.plain=true:=by simpa using hall
   cases hso:setOb σ.h r p (.own 1 (xs.take off++List.replicate len zz++xs.drop (off+len))) false with
   | none=>simp only [hso,Option.map_none,reduceCtorEq] at hx
   | some hf =>
     simp only [hso,Option.map_some,Option.some.injEq,Prod.mk.injEq] at hx;obtain ⟨rfl,rfl⟩:=hx;obtain ⟨ob0,b1,b2,b3,b4⟩:=hb.inv_ref rfl;obtain ⟨b5,A,cap,eA,hcap,b6⟩:=b4 _ _ hnd;have hnA:nodeAt σ.h r p=some (.own 1 xs):=by
      obtain ⟨o',e1,_,_,e2⟩:=Bf.1 hnd;exact Ac.2 ⟨o',e1,e2⟩
     obtain ⟨hpos,arr,ty,ha,hcells⟩:=hr.nodes _ _ _ hnA;have hlo:=hr.lo _ _ _ hnA rfl;obtain ⟨z1,z2⟩:=EH (w:=w) (fz:=m.fz) hov;have hzs:zv.cells.size=1:=by rw [z1,hzzc];rfl
     obtain ⟨V,hVd⟩:∃V:List Value,V=(Builtin.zeroCells zv.cells len).toList:=⟨_,rfl⟩;have hVl:V.length=len:=by simp [hVd,Builtin.zeroCells,hzs]
     have hVc:∀(k:Nat) (y:AV),(List.replicate len zz)[k]? = some y→∃q,V[k]? = some q∧q.oneCell'=true∧VRel0 w m.fz y q:=by
      intro k y hy;have hk:=List.lt_of_some hy;simp at hk;have:=List.eq_of_mem_replicate (List.mem_of_getElem? hy);subst this;have h0:0<zv.cells.size:=by omega
      obtain ⟨_,q2,_,q4⟩:=z2 0 y _ (by rw [hzzc];rfl) (Array.getElem?_eq_getElem h0);refine ⟨zv.cells[0],?_,q2,q4⟩;simp only [hVd,Builtin.zeroCells,Array.getElem?_toList,Array.getElem?_map];rw [Array.getElem?_eq_getElem (by simp [hzs];exact hk)];simp [hzs,Nat.mod_one]
     let n:=len;have hnl:(List.replicate len zz).length=n:=by simp [n]
     let o0:=(m.blk r p).2+off;have hcell:∀(i:Nat) (z:AV),xs[i]? = some z→∃q,arr[(m.blk r p).2+i]? = some q∧q.oneCell'=true∧CellR w m r (p++[(i,0)]) z q∧z.one=true:=by
      intro i z hz;obtain ⟨k1,k2⟩:=hcells i z hz;have hcx:=BP (hxp z (List.mem_of_getElem? hz));obtain ⟨k3,q,k4,k5,k6⟩:=k2 0 z (by rw [hcx];rfl);exact ⟨q,by rw [←k4];congr 1;omega,k5,k6,k3⟩
     have hfit:n=0∨o0+n≤arr.size:=by
      rcases Nat.eq_zero_or_pos n with h0|h0
      ·exact .inl h0
      ·right;obtain ⟨q,g2,_⟩:=hcell (off+n-1) _ (List.getElem?_eq_getElem (by omega));have:=(Array.getElem?_eq_some_iff.1 g2).1;omega
     have hone:∀q∈V,q.oneCell'=true:=by
      intro q hq;obtain ⟨k,hk1,hk2⟩:=List.mem_iff_getElem.1 hq;obtain ⟨q',e1,e2,_⟩:=hVc k _ (List.getElem?_eq_getElem (show k<(List.replicate len zz).length by omega));rw [List.getElem?_eq_getElem hk1,hk2] at e1;cases e1;exact e2
     let arr':Array Value:=if n=0 then arr else (arr.toList.take o0++V++arr.toList.drop (o0+n)).toArray;have hrun:(Builtin.clear_ #[t] o.type #[a.eval x]).run P w = .ok (.tuple #[]) (w.setRow (m.blk r p).1 arr'):=by
      have hst:(storeCells A V).run P w = .ok () (w.setRow (m.blk r p).1 arr'):=by
       rcases Nat.eq_zero_or_pos n with h0|h0
       ·have:V = []:=List.eq_nil_of_length_eq_zero (by omega);subst this;simp only [arr',if_pos h0];simp [storeCells,setRow_selfM ha]
       ·have hA:A=⟨(m.blk r p).1,o0,none⟩:=by
         rcases b6 with b6|b6
         ·omega
         ·rw [b6.1];simp [o0]
        have:=run_storeCells_at (P:=P) (m.blk r p).1 o0 ty V 0 arr w ha (by omega) hone;rw [hA,this];simp only [arr',Nat.add_zero,hVl];rw [if_neg (by omega)]
      simp only [Builtin.clear_];rw [eA];cases hl0:len with
      | zero =>
        have:n=0:=hl0;have e0:arr'=arr:=by simp only [arr',if_pos this]
        simp [run_underlying hut,e0,setRow_selfM ha]
      | succ len' =>
        have:=hst;simp only [hVd,hl0] at this;simp [run_underlying hut,BA hi hzv,this]
     have hxl:(xs.take off).length=off:=by simp;omega
     have hasz:arr'.size=arr.size:=by
      simp only [arr'];split
      ·rfl
      ·simp [hVl];omega
     have ha':(w.setRow (m.blk r p).1 arr').heap[(m.blk r p).1]? = some (.cells arr' ty (0,0)):=setRow_heap w _ arr arr' ty _ ha;have hwk:=setRow_wkeep ha hasz;have hget:∀k,arr'[k]? = if o0≤k∧k<o0+n then V[k-o0]? else arr[k]? := by
      intro k;simp only [arr'];by_cases h0:n=0
      ·rw [if_pos h0,if_neg (by omega)]
      ·rw [if_neg h0];rw [←Array.getElem?_toList];by_cases c1:k<o0
       ·rw [if_neg (by omega),List.append_assoc,List.getElem?_append_left (by simp;omega),List.getElem?_take,if_pos c1];simp
       ·by_cases c2:k<o0+n
        ·rw [if_pos ⟨by omega,c2⟩,List.getElem?_append_left (by simp;omega),List.getElem?_append_right (by simp;omega)];simp only [List.length_take,Array.length_toList];congr 1;omega
        ·rw [if_neg (by omega),List.getElem?_append_right (by simp;omega)];have e1:(List.take o0 arr.toList++V).length=o0+n:=by simp;omega
         rw [e1,List.getElem?_drop];simp only [Array.getElem?_toList];congr 1;omega
     have hrow:∀(i:Nat) (z:AV),(xs.take off++List.replicate len zz++xs.drop (off+n))[i]? = some z→(off≤i∧i<off+n∧(List.replicate len zz)[i-off]? = some z)∨(¬(off≤i∧i<off+n)∧xs[i]? = some z):=by
      intro i z hz;by_cases c1:i<off
      ·rw [List.append_assoc,List.getElem?_append_left (by omega),List.getElem?_take,if_pos c1] at hz;exact .inr ⟨by omega,hz⟩
      ·by_cases c2:i<off+n
       ·rw [List.getElem?_append_left (by simp only [List.length_append,hxl,hnl];exact c2),List.getElem?_append_right (by omega),hxl] at hz;exact .inl ⟨by omega,c2,hz⟩
       ·rw [List.getElem?_append_right (by simp only [List.length_append,hxl,hnl];omega),List.getElem?_drop] at hz;simp only [List.length_append,hxl,hnl] at hz;exact .inr ⟨by omega,by rw [←hz];congr 1;omega⟩
     have hrowl:(xs.take off++List.replicate len zz++xs.drop (off+n)).length=xs.length:=by simp only [List.length_append,hxl,hnl,List.length_drop];omega
     have hrp:∀(i:Nat) (z:AV),(xs.take off++List.replicate len zz++xs.drop (off+n))[i]? = some z→z.plain=true:=by
      intro i z hz;rcases hrow i z hz with ⟨_,_,h⟩|⟨_,h⟩
      ·rw [List.eq_of_mem_replicate (List.mem_of_getElem? h)];exact hzp
      ·exact hxp z (List.mem_of_getElem? h)
     obtain ⟨oo,cc,hoo,huu,hff⟩:=Cc hso;have hrl:r<σ.h.length:=List.lt_of_some hoo;have hput:=hr.put (h':=hf) (w':=w.setRow (m.blk r p).1 arr') (arr:=arr) (arr':=arr') (ty:=ty) (xs':=xs.take off++List.replicate len zz++xs.drop (off+n)) hnA (setRow_below hr.below hlo.1 arr') (by rw [setRow_size];exact Nat.le_refl _)
      (fun k hk _=>setRow_other _ _ _ _ hk) hwk ha ha' (fun _ _=>none)
      (fun i z hz=>by rw [BP (hrp i z hz)];rfl)
      (fun i j z c hz hc=>by
        have hzc:=BP (hrp i z hz);rw [hzc] at hc;have hj:j=0:=by have:=List.lt_of_some hc;simpa using this
        subst hj;cases hc;have hnn:=C4 (hrp i z hz);rcases hrow i z hz with ⟨c1,c2,h⟩|⟨c1,h⟩
        ·obtain ⟨q,k1,k2,k3⟩:=hVc _ _ h;refine ⟨hnn.1,q,?_,k2,.inl ⟨rfl,hnn.2,Kb hnn.2 k3⟩⟩;rw [hget,if_pos (by simp only [o0];omega),←k1];congr 1;simp only [o0];omega
        ·obtain ⟨q,k1,k2,k3,k4⟩:=hcell i z h;refine ⟨k4,q,?_,k2,.inr (.inl ⟨rfl,⟨z,h,by rw [hzc];rfl⟩,by rw [←k1];congr 1;omega⟩)⟩;rw [hget,if_neg (by simp only [o0];omega),←k1];congr 1;omega)
      (fun i j T q h=>by cases h) (fun i j i' j' T q T' q' h=>by cases h) (.inr hrowl)
      (fun r2 o2 hne ho2 hi2=>by
        rw [hff,List.getElem?_set_ne (fun h=>hne h.symm)] at ho2;exact ⟨o2,ho2,rfl,fun i j T q h=>by cases h⟩)
      ⟨oo,_,hoo,by rw [hff,List.getElem?_set_self hrl],huu⟩
     have hpb:putBlk m r p (fun _ _=>none)=m.blk:=Lo (fun _ _=>rfl);rw [hpb] at hput;refine ⟨.tuple #[],w.setRow (m.blk r p).1 arr',m,.inl ?_,hput,?_,hwk,?_,fun b hb'=>hb',by rw [hff];simp,.tup _ _ rfl (fun j c v h=>by simp at h)⟩
     ·simp [execOp,ho,resolve,invoke,builtin,hrun]
     ·intro r2 o2 ho2;by_cases er:r2=r
      ·subst er;rw [hoo] at ho2;cases ho2;refine ⟨_,by rw [hff,List.getElem?_set_self hrl],?_⟩;obtain ⟨o',e1,e2⟩:=Ac.1 hnA;rw [hoo] at e1;cases e1;exact BQ.keep huu e2 hrowl (fun i' j' e' d he' hd' hnd'=>by
        rw [BP (hrp i' e' he')] at hd';have hj:j'=0:=by have:=List.lt_of_some hd';simpa using this
        subst hj;cases hd';rw [(C4 (hrp i' e' he')).2] at hnd';cases hnd') (fun q=>rfl)
      ·exact ⟨o2,by rw [hff,List.getElem?_set_ne (fun h=>er h.symm)];exact ho2,BQ.same (fun q nd _ _=>rfl)⟩
     ·intro b off u hb' hc';have hne:b≠(m.blk r p).1:=fun e=>hlo.2 (e▸hb');exact (World.cell?_of_block (a:=⟨b,off,none⟩) (setRow_other _ _ _ _ hne)).trans hc'
  ·cases hx
 ·cases hx
end
end Go.Mw
