/- Addresses, slices, lengths, literals of structs. -/
import Derived.Test.YtondemeliogjmaaGreatM03
set_option linter.unusedVariables false
set_option linter.unusedSimpArgs false
namespace Go.Mw
open Go.RowKit
section
variable {P:Program}{sm:List Nat}{o:Oper}{a:Act}{w0:World}{fz0:Nat→Prop}{m:Mem}{w:World}{L:Nat→Nat→Prop}{σ:St}{base:Nat}{i:Ins}{v:AV}{h':List Ob}
theorem pfro_drop {w:World}{fz:Nat→Prop}{R:AV→Value→Prop}{cs:List AV}{A:Addr}(h:VRel w fz R (.pfro cs) (.pointer (some A)))(n:Nat):VRel w fz R (.pfro (cs.drop n)) (.pointer (some (A.add n))):=by
 obtain ⟨A',vs,e,hfz,hsp,hc,hrel⟩:=h.inv_pfro;cases e;rw [Addr.add_spot hsp];refine .base _ _ (.pfro _ _ (fun j=>vs (n+j)) hfz rfl (fun j d hd=>?_) (fun j d hd=>?_))
 ·rw [List.getElem?_drop] at hd;obtain ⟨g1,g2,g3⟩:=hc _ d hd;exact ⟨g1,g2,by rw [←g3];simp [Nat.add_assoc]⟩
 ·rw [List.getElem?_drop] at hd;exact hrel _ d hd
theorem ptr_add {w:World}{m:Mem}{h:List Ob}{r st:Nat}{p:Path}{ss k j:Nat}{c:Value}(hb:VRel w m.fz (RefR w m h L) (.ptr r st p ss k j) c)(n:Nat){A:Addr}(e:c = .pointer (some A)) :
 VRel w m.fz (RefR w m h L) (.ptr r st p ss k (j+n)) (.pointer (some (A.add n))):=by
 obtain ⟨ob,h1,h2,h3,h4⟩:=hb.inv_ref rfl;refine .ref _ _ rfl ⟨ob,h1,h2,h3,fun es xs hn=>?_⟩;have:=h4 es xs hn;rw [e] at this;injection this with this;injection this with this;rw [this,Addr.add_none,Nat.add_assoc,Nat.add_assoc]
theorem AjT (ht:TR w m σ.h L σ.t a.tmps)(hr:Rel w0 fz0 m σ.h w){t:TypeId}{x:Operand}{x':Opd}{k n:Nat}{fs:Array Field}{f:Field}(ho:o.op = .fieldAddr t x k)
 (hu:P.underlying t=some (.struct fs)) (hf:fs[k]? = some f) (h1:opd x=some x') (hn:szT P f.type=some (n+1))
 (hx:ax base (.fad f.offset x') σ=some (v,h')):OpOk P o a w0 fz0 m σ.h w L v h':=by
 have hb:=ht.get (a:=a) h1;have hfp:∀A:Addr,(fieldPlace A f).run P w = .ok (A.add f.offset) w:=fun A=>by simp [fieldPlace,Ba hn]
 simp only [ax] at hx;generalize hg:σ.get x'=g at hx hb;cases g<;>simp only [reduceCtorEq] at hx
 ·rename_i cs;split at hx
  ·cases hx;obtain ⟨A,vs,e,_⟩:=hb.inv_pfro;rw [e] at hb;refine OpOk.quiet hr (c:=.pointer (some (A.add f.offset))) ?_ (pfro_drop hb _);simp only [execOp,ho,Instr.fieldAt,e];simp [run_underlying hu,hf,Instr.sureAddr,hfp]
  ·cases hx
 ·rename_i r st p ss k j;split at hx
  ·rename_i es xs hnd;cases hx;obtain ⟨ob,g1,g2,g3,g4⟩:=hb.inv_ref rfl;have e:=g4 _ _ hnd;refine OpOk.quiet hr (c:=.pointer (some ((⟨(m.blk r p).1,(m.blk r p).2+(k*es+j),none⟩:Addr).add f.offset))) ?_ (ptr_add hb _ e);simp only [execOp,ho,Instr.fieldAt,e];simp [run_underlying hu,hf,Instr.sureAddr,hfp]
  ·cases hx
theorem ok_nil (ht:TR w m σ.h L σ.t a.tmps)(hr:Rel w0 fz0 m σ.h w){x:Operand}{x':Opd}(ho:o.op = .nilCheck x)(h1:opd x=some x')
 (hx:ax base (.fad 0 x') σ=some (v,h')):OpOk P o a w0 fz0 m σ.h w L v h':=by
 have hb:=ht.get (a:=a) h1;simp only [ax] at hx;generalize hg:σ.get x'=g at hx hb;cases g<;>simp only [reduceCtorEq] at hx
 ·rename_i cs;split at hx
  ·cases hx;obtain ⟨A,vs,e,_⟩:=hb.inv_pfro;rw [e] at hb;refine OpOk.quiet hr (c:=.pointer (some A)) ?_ (by simpa using hb);simp only [execOp,ho,e];rfl
  ·cases hx
 ·rename_i r st p ss k j;split at hx
  ·rename_i es xs hnd;cases hx;obtain ⟨ob,g1,g2,g3,g4⟩:=hb.inv_ref rfl;have e:=g4 _ _ hnd;refine OpOk.quiet hr (c:=.pointer (some (⟨(m.blk r p).1,(m.blk r p).2+(k*es+j),none⟩:Addr))) ?_ (by rw [e] at hb;exact hb);simp only [execOp,ho,e];rfl
  ·cases hx
theorem run_indexAt_array' {t e:TypeId}{len n:Nat}(hu:P.underlying t=some (.array len e))(hn:szT P e=some n)(A:Addr)(k:IntKind)(q:Int)(h:0≤q∧q<(len:Int)) :
 (Instr.indexAt t (.pointer (some A)) (.int k q)).run P w = .ok (.pointer (some (A.add (q.toNat*n)))) w:=by
 simp [Instr.indexAt,asIntOf,run_underlying hu,Instr.sureAddr,h,Ba hn]
theorem Ajy (ht:TR w m σ.h L σ.t a.tmps)(hr:Rel w0 fz0 m σ.h w){t e:TypeId}{x y:Operand}{x' y':Opd}{len n:Nat}(ho:o.op = .indexAddr t x y)
 (hu:P.underlying t=some (.array len e)) (h1:opd x=some x') (h2:opd y=some y') (hn:szT P e=some n)
 (hx:ax base (.iaa len n x' y') σ=some (v,h')):OpOk P o a w0 fz0 m σ.h w L v h':=by
 have hb:=ht.get (a:=a) h1;have hd:=ht.get (a:=a) h2;simp only [ax] at hx;generalize hg:σ.get x'=g at hx hb;generalize hg':σ.get y'=g' at hx hd;cases g<;>cases g'<;>simp only [reduceCtorEq] at hx
 ·rename_i cs k q;split at hx
  ·rename_i hc;cases hx;obtain ⟨A,vs,e',_⟩:=hb.inv_pfro;rw [e'] at hb;refine OpOk.quiet hr (c:=.pointer (some (A.add (q.toNat*n)))) ?_ (pfro_drop hb _);simp only [execOp,ho,e',hd.inv_int];simp [run_indexAt_array' hu hn A k q ⟨hc.1,hc.2.1⟩]
  ·cases hx
 ·rename_i r st p ss kk j k q;split at hx
  ·rename_i hc;split at hx
   ·rename_i es xs hnd;cases hx;obtain ⟨ob,g1,g2,g3,g4⟩:=hb.inv_ref rfl;have e':=g4 _ _ hnd;refine OpOk.quiet hr (c:=.pointer (some ((⟨(m.blk r p).1,(m.blk r p).2+(kk*es+j),none⟩:Addr).add (q.toNat*n)))) ?_ (ptr_add hb _ e');simp only [execOp,ho,e',hd.inv_int];simp [run_indexAt_array' hu hn _ k q hc]
   ·cases hx
  ·cases hx
theorem run_indexAt_slice' {t e:TypeId}{n:Nat}(hu:P.underlying t=some (.slice e))(hn:szT P e=some n)(A:Addr)(len cap:Nat)(k:IntKind)(q:Int)(h:0≤q∧q<(len:Int)) :
 (Instr.indexAt t (.slice (some A) len cap) (.int k q)).run P w = .ok (.pointer (some (A.add (q.toNat*n)))) w:=by
 simp [Instr.indexAt,asIntOf,run_underlying hu,h,Ba hn]
theorem Ajw (ht:TR w m σ.h L σ.t a.tmps)(hr:Rel w0 fz0 m σ.h w){t e:TypeId}{x y:Operand}{x' y':Opd}{n:Nat}(ho:o.op = .indexAddr t x y)
 (hu:P.underlying t=some (.slice e)) (h1:opd x=some x') (h2:opd y=some y') (hn:szT P e=some n)
 (hx:ax base (.iad n x' y') σ=some (v,h')):OpOk P o a w0 fz0 m σ.h w L v h':=by
 have hb:=ht.get (a:=a) h1;have hd:=ht.get (a:=a) h2;simp only [ax] at hx;generalize hg:σ.get x'=g at hx hb;generalize hg':σ.get y'=g' at hx hd;cases g<;>cases g'<;>simp only [reduceCtorEq] at hx
 ·rename_i xs k q;split at hx
  ·rename_i h0;cases hq:xs[q.toNat]? with
   | none=>simp [hq] at hx
   | some el =>
     simp only [hq] at hx;split at hx
     ·rename_i hel;cases hx;obtain ⟨A,cap,es,vs,e',hcap,hfz,hes,hc,hrel⟩:=hb.inv_lst.resolve_left (fun h=>by rw [h.1] at hq;simp at hq);have hlt:=List.lt_of_some hq;have hee:es=n:=by rw [←hes _ _ hq,hel]
      subst hee;obtain ⟨hf1,hf2⟩:=hfz (by omega);refine OpOk.quiet hr (c:=.pointer (some (A.add (q.toNat*es)))) ?_ (.base _ _ ?_)
      ·simp only [execOp,ho,e',hd.inv_int];simp [run_indexAt_slice' hu hn A xs.length cap k q ⟨h0,by omega⟩]
      ·rw [Addr.add_spot hf2];refine .pfro _ _ (vs q.toNat) hf1 rfl (fun j d hj=>?_) (fun j d hj=>hrel _ _ _ _ hq hj);obtain ⟨g1,g2,g3⟩:=hc _ _ _ _ hq hj;exact ⟨g1,g2,by rw [←g3];simp [Nat.add_assoc]⟩
     ·cases hx
  ·cases hx
 ·rename_i r st p ss off len k q;split at hx
  ·rename_i h0;split at hx
   ·rename_i es xs hnd;split at hx
    ·rename_i hee;subst hee;cases hx;obtain ⟨ob,g1,g2,g3,g4⟩:=hb.inv_ref rfl;obtain ⟨g5,A,cap,e',hcap,g6⟩:=g4 _ _ hnd;have hA:A=⟨(m.blk r p).1,(m.blk r p).2+off*es,none⟩:=by
      rcases g6 with g6|g6
      ·omega
      ·exact g6.1
     subst hA;refine OpOk.quiet hr (c:=.pointer (some ((⟨(m.blk r p).1,(m.blk r p).2+off*es,none⟩:Addr).add (q.toNat*es)))) ?_ (.ref _ _ rfl ⟨ob,g1,g2,g3,fun es' xs' hn'=>?_⟩)
     ·simp only [execOp,ho,e',hd.inv_int];simp [run_indexAt_slice' hu hn _ _ cap k q h0]
     ·rw [hnd] at hn';cases hn';rw [Addr.add_none,Nat.add_mul];simp [Nat.add_assoc]
    ·cases hx
   ·cases hx
  ·cases hx
theorem ok_lenx (hr:Rel w0 fz0 m σ.h w){args:Array Operand}{ts:Array TypeId}{t:TypeId}{x:Operand}{n:Nat}(ho:o.op = .call { callee:=.builtin .len,args:=args,argTypes:=ts })
 (ha:args.toList = [x]) (hts:ts.toList = [t]) (hn:(Builtin.len_ #[t] o.type #[a.eval x]).run P w = .ok (goInt n) w):OpOk P o a w0 fz0 m σ.h w L (.int .i64 n) σ.h:=by
 have e1:args = #[x]:=by apply Array.toList_inj.1;simpa using ha
 have e2:ts = #[t]:=by apply Array.toList_inj.1;simpa using hts
 subst e1;subst e2;refine OpOk.quiet hr (c:=goInt n) ?_ (.base _ _ (.int _ _));simp [execOp,ho,resolve,invoke,builtin,hn]
theorem Ahz (ht:TR w m σ.h L σ.t a.tmps)(hr:Rel w0 fz0 m σ.h w){args:Array Operand}{ts:Array TypeId}{t:TypeId}{x:Operand}{x':Opd}(ho:o.op = .call { callee:=.builtin .len,args:=args,argTypes:=ts })
 (h1:opd x=some x') (ha:args.toList = [x]) (hts:ts.toList = [t]) (hty:P.underlying t=some .string)
 (hx:ax base (.lens x') σ=some (v,h')):OpOk P o a w0 fz0 m σ.h w L v h':=by
 have hb:=ht.get (a:=a) h1;simp only [ax] at hx;generalize hg:σ.get x'=g at hx hb;cases g<;>simp only [reduceCtorEq,Option.some.injEq,Prod.mk.injEq] at hx;obtain ⟨rfl,rfl⟩:=hx;refine ok_lenx hr ho ha hts ?_;simp [Builtin.len_,run_underlying hty,hb.inv_str]
theorem Aie (ht:TR w m σ.h L σ.t a.tmps)(hr:Rel w0 fz0 m σ.h w){args:Array Operand}{ts:Array TypeId}{t e:TypeId}{x:Operand}{x':Opd}(ho:o.op = .call { callee:=.builtin .len,args:=args,argTypes:=ts })
 (h1:opd x=some x') (ha:args.toList = [x]) (hts:ts.toList = [t]) (hty:P.underlying t=some (.slice e))
 (hx:ax base (.lenl x') σ=some (v,h')):OpOk P o a w0 fz0 m σ.h w L v h':=by
 have hb:=ht.get (a:=a) h1;simp only [ax] at hx;generalize hg:σ.get x'=g at hx hb;cases g<;>simp only [reduceCtorEq,Option.some.injEq,Prod.mk.injEq] at hx
 ·obtain ⟨rfl,rfl⟩:=hx;refine ok_lenx (n:=0) hr ho ha hts ?_;simp [Builtin.len_,run_underlying hty,hb.inv_nils]
 ·obtain ⟨rfl,rfl⟩:=hx;obtain ⟨A,e'⟩:=hb.inv_emp;refine ok_lenx (n:=0) hr ho ha hts ?_;simp [Builtin.len_,run_underlying hty,e']
 ·obtain ⟨rfl,rfl⟩:=hx;rcases hb.inv_lst with ⟨h0,e'⟩|⟨A,cap,es,vs,e',_⟩
  ·subst h0;refine ok_lenx (n:=0) hr ho ha hts ?_;simp [Builtin.len_,run_underlying hty,e']
  ·refine ok_lenx hr ho ha hts ?_;simp [Builtin.len_,run_underlying hty,e']
 ·split at hx
  ·rename_i es xs hnd;simp only [Option.some.injEq,Prod.mk.injEq] at hx;obtain ⟨rfl,rfl⟩:=hx;obtain ⟨ob,g1,g2,g3,g4⟩:=hb.inv_ref rfl;obtain ⟨g5,A,cap,e',_⟩:=g4 _ _ hnd;refine ok_lenx hr ho ha hts ?_;simp [Builtin.len_,run_underlying hty,e']
  ·cases hx
 ·obtain ⟨rfl,rfl⟩:=hx;obtain ⟨A,cap,e'⟩:=hb.inv_ne;refine ok_lenx (n:=0) hr ho ha hts ?_;simp [Builtin.len_,run_underlying hty,e']
theorem Ahe (ht:TR w m σ.h L σ.t a.tmps)(hr:Rel w0 fz0 m σ.h w){args:Array Operand}{ts:Array TypeId}{t k e:TypeId}{x:Operand}{x':Opd}(ho:o.op = .call { callee:=.builtin .len,args:=args,argTypes:=ts })
 (h1:opd x=some x') (ha:args.toList = [x]) (hts:ts.toList = [t]) (hty:P.underlying t=some (.map k e))
 (hx:ax base (.lenm x') σ=some (v,h')):OpOk P o a w0 fz0 m σ.h w L v h':=by
 have hb:=ht.get (a:=a) h1;simp only [ax] at hx;generalize hg:σ.get x'=g at hx hb;cases g<;>simp only [reduceCtorEq,Option.some.injEq,Prod.mk.injEq] at hx
 ·obtain ⟨rfl,rfl⟩:=hx;refine ok_lenx (n:=0) hr ho ha hts ?_;simp [Builtin.len_,run_underlying hty,hb.inv_nilm]
 ·split at hx
  ·rename_i es hnd;simp only [Option.some.injEq,Prod.mk.injEq] at hx;obtain ⟨rfl,rfl⟩:=hx;obtain ⟨ob,g1,g2,g3,g4⟩:=hb.inv_ref rfl;have e':=g4 _ hnd;obtain ⟨ents,clock,k1,k2,_⟩:=hr.nodeF hnd;refine ok_lenx hr ho ha hts ?_;rw [e'];simp [Builtin.len_,run_underlying hty,getObj,Sem.run,k1,k2,goInt]
  ·cases hx
end
end Go.Mw
namespace Go.Mw
open Go.RowKit
section
variable {P:Program}{sm:List Nat}{o:Oper}{a:Act}{w0:World}{fz0:Nat→Prop}{m:Mem}{w:World}{L:Nat→Nat→Prop}{σ:St}{base:Nat}{i:Ins}{v:AV}{h':List Ob}
variable {fz:Nat→Prop}{R R':AV→Value→Prop}{w':World}
theorem BR {t:TypeId}{k:Nat}(h:Ld P t=some k):szT P t=some 1∧XJ P t=some false∧((k=0∧P.underlying t=some .bool)∨(k=1∧∃q,P.underlying t=some (.int q))∨(k=2∧P.underlying t=some .string)):=by
 unfold Ld at h;split at h
 ·rename_i hs;refine ⟨hs,?_⟩;unfold XJ;split at h<;>cases h
  ·rename_i hu;simp [hu]
  ·rename_i q hu;simp [hu]
  ·rename_i hu;simp [hu]
 ·cases h
theorem run_equalIn_kind (d:Nat){t:TypeId}{k:Nat}(hk:Ld P t=some k){x y:AV}{b:Bool}(h:CP k x y=some b){c c':Value}(hx:VRel w' fz R x c)(hy:VRel w' fz R' y c') :
 (Op.equalIn (d+1) t c c').run P w = .ok b w:=by
 obtain ⟨_,_,hc⟩:=BR hk;unfold CP at h;split at h
 ·cases h;rcases hc with ⟨_,hu⟩|⟨h,_⟩|⟨h,_⟩
  ·rw [hx.inv_bool,hy.inv_bool];simp [Op.equalIn,run_underlying hu]
  ·cases h
  ·cases h
 ·split at h
  ·rename_i hkk;cases h;subst hkk;rcases hc with ⟨h,_⟩|⟨_,q,hu⟩|⟨h,_⟩
   ·cases h
   ·rw [hx.inv_int,hy.inv_int];simp [Op.equalIn,run_underlying hu]
   ·cases h
  ·cases h
 ·cases h;rcases hc with ⟨h,_⟩|⟨h,_⟩|⟨_,hu⟩
  ·cases h
  ·cases h
  ·rw [hx.inv_str,hy.inv_str];simp [Op.equalIn,run_underlying hu]
 ·cases h
theorem eqCells_cons {k:Nat}{ks:List Nat}{xs ys:List AV}{b:Bool}(h:eqCells (k::ks) xs ys=some b) :
 ∃x xs' y ys' b1 b2,xs=x::xs'∧ys=y::ys'∧CP k x y=some b1∧eqCells ks xs' ys'=some b2∧b=(b1&&b2):=by
 cases xs with
 | nil=>simp [eqCells] at h
 | cons x xs =>
   cases ys with
   | nil=>simp [eqCells] at h
   | cons y ys =>
     simp only [eqCells] at h;split at h
     ·rename_i h1;exact ⟨x,xs,y,ys,true,b,rfl,rfl,h1,h,by simp⟩
     ·rename_i h1;split at h
      ·rename_i b2 h2;cases h;exact ⟨x,xs,y,ys,false,b2,rfl,rfl,h1,h2,rfl⟩
      ·cases h
     ·cases h
theorem run_part1 {t:TypeId}(h:XJ P t=some false){cs:Array Value}{j:Nat}{c:Value}(hj:cs[j]? = some c):(part t cs j).run P w = .ok c w:=by
 simp [part,K6 h,hj]
theorem List.drop_cons_get {α:Type}{l:List α}{n:Nat}{x:α}{t:List α}(h:l.drop n=x::t):l[n]? = some x∧l.drop (n+1)=t:=by
 constructor
 ·have:=congrArg (·[0]?) h;simpa [List.getElem?_drop] using this
 ·have:=congrArg (List.drop 1) h;simpa [List.drop_drop] using this
theorem TK (d:Nat){X Y:Array Value}{xs ys:List AV}(hX:X.size=xs.length)(hY:Y.size=ys.length)
 (hx:∀(j:Nat) (e:AV) (u:Value),xs[j]? = some e→X[j]? = some u→VRel w' fz R e u) (hy:∀(j:Nat) (e:AV) (u:Value),ys[j]? = some e→Y[j]? = some u→VRel w' fz R' e u) :
 ∀(fs:List Field) (n:Nat) (ks:List Nat) (b:Bool),Ku P n fs=some ks→eqCells ks (xs.drop n) (ys.drop n)=some b →
 (forIn (m:=Sem) fs ((none,()):Option Bool×Unit) fun (f:Field) __s =>
          if f.name = "_" then pure (ForInStep.yield (none,()))
          else do
           let __do_lift ←part f.type X f.offset;let __do_lift_1 ←part f.type Y f.offset;let __do_lift ←Op.equalIn (d+1) f.type __do_lift __do_lift_1
           if __do_lift=false then pure (ForInStep.done (some false,()))
            else pure (ForInStep.yield (none,()))).run P w = .ok (if b then (none,()) else (some false,())) w:=by
 intro fs;induction fs with
 | nil=>intro n ks b hk he;simp [Ku] at hk;subst hk;cases hxs:xs.drop n<;>cases hys:ys.drop n<;>simp [hxs,hys,eqCells] at he;subst he;simp
 | cons f fs ih =>
   intro n ks b hk he;simp only [Ku] at hk;split at hk
   ·rename_i hnm;cases h1:Ld P f.type with
    | none=>simp [h1] at hk
    | some k =>
      cases h2:Ku P (n+1) fs with
      | none=>simp [h1,h2] at hk
      | some ks' =>
        simp [h1,h2] at hk;subst hk;obtain ⟨x,xs',y,ys',b1,b2,e1,e2,e3,e4,rfl⟩:=eqCells_cons he;obtain ⟨g1,g2⟩:=List.drop_cons_get e1;obtain ⟨g3,g4⟩:=List.drop_cons_get e2;have hlX:n<X.size:=by rw [hX];exact List.lt_of_some g1
        have hlY:n<Y.size:=by rw [hY];exact List.lt_of_some g3
        have p1:=run_part1 (P:=P) (w:=w) (BR h1).2.1 (Array.getElem?_eq_getElem hlX);have p2:=run_part1 (P:=P) (w:=w) (BR h1).2.1 (Array.getElem?_eq_getElem hlY);have p3:=run_equalIn_kind (P:=P) (w:=w) d h1 e3 (hx _ _ _ g1 (Array.getElem?_eq_getElem hlX)) (hy _ _ _ g3 (Array.getElem?_eq_getElem hlY));have hrest:=ih (n+1) ks' b2 h2 (by rw [g2,g4];exact e4);rw [List.forIn_cons];rw [if_neg hnm.1,hnm.2];simp only [Sem.run_bind,p1,p2,p3,Result.andThen];cases b1
        ·simp
        ·simp only [Bool.true_eq_false,if_false,Bool.true_and];simp [hrest]
   ·cases hk
theorem run_eq_cells (d:Nat){e:TypeId}{k:Nat}(hk:Ld P e=some k){X Y:Array Value}{xs ys:List AV}(hX:X.size=xs.length)(hY:Y.size=ys.length)
 (hx:∀(j:Nat) (e:AV) (u:Value),xs[j]? = some e→X[j]? = some u→VRel w' fz R e u) (hy:∀(j:Nat) (e:AV) (u:Value),ys[j]? = some e→Y[j]? = some u→VRel w' fz R' e u) :
 ∀(len n:Nat) (b:Bool),eqCells (List.replicate len k) (xs.drop n) (ys.drop n)=some b →
 (forIn (m:=Sem) (List.range' n len) ((none,()):Option Bool×Unit) fun i __s=>do
         let __do_lift ←part e X i;let __do_lift_1 ←part e Y i;let __do_lift ←Op.equalIn (d+1) e __do_lift __do_lift_1
         if __do_lift=false then pure (ForInStep.done (some false,())) else pure (ForInStep.yield (none,()))).run P w = .ok (if b then (none,()) else (some false,())) w:=by
 intro len;induction len with
 | zero=>intro n b he;cases hxs:xs.drop n<;>cases hys:ys.drop n<;>simp [hxs,hys,eqCells] at he;subst he;simp
 | succ len ih =>
   intro n b he;rw [List.replicate_succ] at he;obtain ⟨x,xs',y,ys',b1,b2,e1,e2,e3,e4,rfl⟩:=eqCells_cons he;obtain ⟨g1,g2⟩:=List.drop_cons_get e1;obtain ⟨g3,g4⟩:=List.drop_cons_get e2;have hlX:n<X.size:=by rw [hX];exact List.lt_of_some g1
   have hlY:n<Y.size:=by rw [hY];exact List.lt_of_some g3
   have p1:=run_part1 (P:=P) (w:=w) (BR hk).2.1 (Array.getElem?_eq_getElem hlX);have p2:=run_part1 (P:=P) (w:=w) (BR hk).2.1 (Array.getElem?_eq_getElem hlY);have p3:=run_equalIn_kind (P:=P) (w:=w) d hk e3 (hx _ _ _ g1 (Array.getElem?_eq_getElem hlX)) (hy _ _ _ g3 (Array.getElem?_eq_getElem hlY));have hrest:=ih (n+1) b2 (by rw [g2,g4];exact e4);rw [List.range'_succ,List.forIn_cons];simp only [Sem.run_bind,p1,p2,p3,Result.andThen];cases b1
   ·simp
   ·simp only [Bool.true_eq_false,if_false,Bool.true_and];simp [hrest]
theorem KE (d:Nat){t:TypeId}{ks:List Nat}(hk:UB P t=some ks){X Y:Array Value}{xs ys:List AV}{b:Bool}(he:eqCells ks xs ys=some b)(hX:X.size=xs.length)(hY:Y.size=ys.length)
 (hx:∀(j:Nat) (e:AV) (u:Value),xs[j]? = some e→X[j]? = some u→VRel w' fz R e u) (hy:∀(j:Nat) (e:AV) (u:Value),ys[j]? = some e→Y[j]? = some u→VRel w' fz R' e u) :
 (Op.equalIn (d+2) t (.agg X) (.agg Y)).run P w = .ok b w:=by
 unfold UB at hk;split at hk
 ·rename_i fs hu;split at hk
  ·rename_i hs;have:=TK (P:=P) (w:=w) d hX hY hx hy fs.toList 0 ks b hk (by simpa using he);rw [Op.equalIn];simp only [Sem.run_bind,run_underlying hu,Result.andThen,program,Sem.run,hs];simp only [Array.forIn_toList] at this;simp only [Bool.false_eq_true,if_false,pure_bind,Sem.run_bind,ne_eq,ite_not,Bool.not_eq_true',this];cases b<;>simp
  ·cases hk
 ·rename_i n e hu;cases hke:Ld P e with
  | none=>simp [hke] at hk
  | some k =>
    simp [hke] at hk;subst hk;have:=run_eq_cells (P:=P) (w:=w) d hke hX hY hx hy n 0 b (by simpa using he);rw [Op.equalIn];simp [run_underlying hu,Ba (BR hke).1,this];cases b<;>simp
 ·cases hk
end
end Go.Mw
namespace Go.Mw
open Go.RowKit
section
variable {P:Program}{sm:List Nat}{o:Oper}{a:Act}{w0:World}{fz0:Nat→Prop}{m:Mem}{w:World}{L:Nat→Nat→Prop}{σ:St}{base:Nat}{i:Ins}{v:AV}{h':List Ob}
variable {fz:Nat→Prop}{R R':AV→Value→Prop}{w':World}
theorem KW {op:BinOp}{t:TypeId}(x y:Operand)(X Y:Array Value)(h:P.eqGuardType P.depth t=false):(eqGuard op t x y (.agg X) (.agg Y)).run P w = .ok () w:=by
 cases op<;>simp [eqGuard,program,Sem.run,h]
theorem ok_eqa (ht:TR w m σ.h L σ.t a.tmps)(hr:Rel w0 fz0 m σ.h w){neg:Bool}{t yt:TypeId}{x y:Operand}{x' y':Opd}{ks:List Nat}(ho:o.op = .binOp (if neg then .neq else .eql) t x y yt)
 (hk:UB P t=some ks) (hg:P.eqGuardType P.depth t=false) (h1:opd x=some x') (h2:opd y=some y')
 (hx:ax base (.eqa neg ks x' y') σ=some (v,h')):OpOk P o a w0 fz0 m σ.h w L v h':=by
 have hb:=ht.get (a:=a) h1;have hd:=ht.get (a:=a) h2;simp only [ax] at hx;generalize hg1:σ.get x'=g at hx hb;generalize hg2:σ.get y'=g' at hx hd;cases g<;>cases g'<;>simp only [reduceCtorEq] at hx;rename_i xs ys;cases he:eqCells ks xs ys with
 | none=>simp [he] at hx
 | some b =>
   simp [he] at hx;obtain ⟨rfl,rfl⟩:=hx;obtain ⟨X,e1,l1,_,r1⟩:=hb.inv_agg;obtain ⟨Y,e2,l2,_,r2⟩:=hd.inv_agg;have hq:(Op.equal t (.agg X) (.agg Y)).run P w = .ok b w:=KE 9998 hk he l1 l2 r1 r2;refine OpOk.quiet hr (c:=_) ?_ (.base _ _ (.bool _));cases neg
   ·simp only [execOp,ho,e1,e2,Bool.false_eq_true,if_false,binOp];simp [KW x y X Y hg,hq]
   ·simp only [execOp,ho,e1,e2,if_true,binOp];simp [KW x y X Y hg,hq]
theorem List.drop_take_get {α:Type}{xs:List α}{l h:Nat}{k:Nat}{e:α}(hh:((xs.take h).drop l)[k]? = some e):xs[l+k]? = some e∧l+k<h:=by
 rw [List.getElem?_drop,List.getElem?_take] at hh;split at hh
 ·exact ⟨hh,by assumption⟩
 ·cases hh
theorem bound_zero {x:Option AV}(h:bound x 1 0=some 0):∃k,x=some (.int k 0):=by
 rcases bound_some h with ⟨_,h⟩|⟨k,q,e,h1,h2,h3⟩
 ·cases h
 ·have:q=0:=by omega
  subst this;exact ⟨k,e⟩
theorem L4 (ht:TR w m σ.h L σ.t a.tmps){lo hi mx:Option Operand}{lo' hi':Option Opd}{m':Opd}(hlo:Rn lo=some lo')(hhi:Rn hi=some hi')(hmx:Rn mx=some (some m')){len cap:Nat}
 (h0:∃k,σ.get m' = .int k 0) (h1:∃k,hi'.map σ.get=some (.int k 0)) {nl:Nat}(h2:bound (lo'.map σ.get) 0 0=some nl) :
 (Instr.sliceBounds true len cap (lo.map a.eval) (hi.map a.eval) (mx.map a.eval)).run P w = .ok (0,0,0) w:=by
 obtain ⟨k0,h0⟩:=h0;obtain ⟨k1,h1⟩:=h1;rcases opdo_get ht hmx with ⟨_,h⟩|⟨z,z',rfl,hz,hmv⟩
 ·cases h
 cases hz;rw [h0] at hmv;rcases opdo_get ht hhi with ⟨rfl,rfl⟩|⟨y,y',rfl,rfl,hy⟩
 ·cases h1
 simp only [Option.map_some,Option.some.injEq] at h1;rw [h1] at hy;have b1:∀cd,(Instr.sliceBound (a.eval z) cap cd).run P w = .ok 0 w:=fun cd=>BZ hmv.inv_int ⟨by omega,by omega⟩ cd;have b2:∀cd,(Instr.sliceBound (a.eval y) 0 cd).run P w = .ok 0 w:=fun cd=>BZ hy.inv_int ⟨by omega,by omega⟩ cd;unfold Instr.sliceBounds;rcases opdo_get ht hlo with ⟨rfl,rfl⟩|⟨x,x',rfl,rfl,hx⟩
 ·simp [b1,b2]
 ·rcases bound_some h2 with ⟨h3,_⟩|⟨k,q,h3,h4,h5,rfl⟩
  ·cases h3
  ·simp only [Option.map_some,Option.some.injEq] at h3;rw [h3] at hx;have hq:q=0:=by omega
   subst hq;have b3:∀cd,(Instr.sliceBound (a.eval x) 0 cd).run P w = .ok 0 w:=fun cd=>BZ hx.inv_int ⟨by omega,by omega⟩ cd;simp [b1,b2,b3]
theorem HG {t e:TypeId}{n:Nat}(hu:P.underlying t=some (.slice e))(hn:szT P e=some n)(A:Option Addr)(len cap nl nh nm:Nat)(lo hi mx:Option Value)
 (hb:(Instr.sliceBounds true len cap lo hi mx).run P w = .ok (nl,nh,nm) w) :
 (Instr.sliceAt t (.slice A len cap) lo hi mx).run P w = .ok (.slice (if nm=nl then A else A.map (·.add (nl*n))) (nh-nl) (nm-nl)) w:=by
 simp [Instr.sliceAt,Instr.slice,run_underlying hu,hb,Ba hn]
theorem W0 {x:Option AV}{q:Nat}(h:bound x 0 0=some q):q=0:=by
 rcases bound_some h with ⟨_,h⟩|⟨_,_,_,_,_,h⟩<;>omega
theorem Xm (ht:TR w m σ.h L σ.t a.tmps)(hr:Rel w0 fz0 m σ.h w){t e:TypeId}{x:Operand}{lo hi mx:Option Operand}{lo' hi' mx':Option Opd}{n:Nat}(ho:o.op = .slice t x lo hi mx)
 (hu:P.underlying t=some (.slice e)) (hn:szT P e=some n) (hlo:Rn lo=some lo') (hhi:Rn hi=some hi') (hmx:Rn mx=some mx') {A:Option Addr}(hA:a.eval x = .slice A 0 0) {u:AV}
 (hrel:VRel w m.fz (RefR w m σ.h L) u (.slice A 0 0))
 (hx:(match mx'.map σ.get,bound (hi'.map σ.get) 0 0,bound (lo'.map σ.get) 0 0 with
   | none,some _,some _=>some (u,σ.h)
   | some (.int _ 0),some _,some _=>if hi'.isSome then some (u,σ.h) else none
   | _,_,_=>none)=some (v,h')):OpOk P o a w0 fz0 m σ.h w L v h':=by
 cases hb1:bound (hi'.map σ.get) 0 0 with
 | none=>rw [hb1] at hx;split at hx<;>simp_all
 | some q1 =>
   cases hb2:bound (lo'.map σ.get) 0 0 with
   | none=>rw [hb1,hb2] at hx;split at hx<;>simp_all
   | some q2 =>
     rw [hb1,hb2] at hx;have z1:=W0 hb1;have z2:=W0 hb2;subst z1;subst z2;have hbd:=(LA (P:=P) ht hlo hhi true (Nat.le_refl 0) hb1 hb2).1;cases mx' with
     | none =>
       simp only [Option.map_none,Option.some.injEq,Prod.mk.injEq] at hx;obtain ⟨rfl,rfl⟩:=hx;rcases opdo_get ht hmx with ⟨rfl,_⟩|⟨_,_,_,h,_⟩
       ·refine OpOk.quiet hr (c:=.slice A 0 0) ?_ hrel;simp only [execOp,ho,hA,Option.map_none];simp [HG hu hn A 0 0 0 0 0 _ _ _ hbd]
       ·cases h
     | some m' =>
       simp only [Option.map_some] at hx;have:∃k,σ.get m' = .int k 0∧hi'.isSome=true∧v=u∧h'=σ.h:=by
        split at hx<;>simp_all
       obtain ⟨k,hm,hsome,rfl,rfl⟩:=this;have h1':∃k,hi'.map σ.get=some (.int k 0):=by
        rcases bound_some hb1 with ⟨h,_⟩|⟨k,q,h,h3,h4,_⟩
        ·cases hi'<;>simp at h hsome
        ·have:q=0:=by omega
         subst this;exact ⟨k,h⟩
       have hbd:=L4 (P:=P) ht hlo hhi hmx (len:=0) (cap:=0) ⟨k,hm⟩ h1' hb2;refine OpOk.quiet hr (c:=.slice A 0 0) ?_ hrel;simp only [execOp,ho,hA];simp [HG hu hn A 0 0 0 0 0 _ _ _ hbd]
theorem Aji (ht:TR w m σ.h L σ.t a.tmps)(hr:Rel w0 fz0 m σ.h w){t e:TypeId}{x:Operand}{lo hi mx:Option Operand}{x':Opd}{lo' hi' mx':Option Opd}{n:Nat}(ho:o.op = .slice t x lo hi mx)
 (hu:P.underlying t=some (.slice e)) (hn:szT P e=some n) (h1:opd x=some x') (hlo:Rn lo=some lo') (hhi:Rn hi=some hi') (hmx:Rn mx=some mx')
 (hx:ax base (.sli n x' lo' hi' mx') σ=some (v,h')):OpOk P o a w0 fz0 m σ.h w L v h':=by
 have hb:=ht.get (a:=a) h1;simp only [ax] at hx;generalize hg1:σ.get x'=g at hx hb;cases g<;>simp only [reduceCtorEq] at hx
 ·-- nil
  exact Xm ht hr ho hu hn hlo hhi hmx hb.inv_nils (.base _ _ .nils) hx
 ·-- empty
  obtain ⟨A,eA⟩:=hb.inv_emp;exact Xm ht hr ho hu hn hlo hhi hmx eA (.base _ _ (.emp A)) hx
 ·-- frozen
  rename_i xs;rcases hb.inv_lst with ⟨h0,eA⟩|⟨A,cap,es,vs,eA,hcap,hfz,hes,hc,hrel⟩
  ·subst h0;have hx2:∃u,VRel w m.fz (RefR w m σ.h L) u (.slice none 0 0)∧(match mx'.map σ.get,bound (hi'.map σ.get) 0 0,bound (lo'.map σ.get) 0 0 with
    | none,some _,some _=>some (u,σ.h)
    | some (.int _ 0),some _,some _=>if hi'.isSome then some (u,σ.h) else none
    | _,_,_=>none)=some (v,h'):=by
    cases mx' with
    | none =>
      refine ⟨.lst [],.base _ _ .lstn,?_⟩;simp only [List.length_nil,Option.map_none] at hx ⊢;cases hb1:bound (hi'.map σ.get) 0 0 with
      | none=>simp [hb1] at hx
      | some q1 =>
        have z1:=W0 hb1;subst z1;cases hb2:bound (lo'.map σ.get) 0 0 with
        | none=>simp [hb1,hb2] at hx
        | some q2=>simp [hb1,hb2] at hx ⊢;exact hx
    | some m' =>
      refine ⟨.emp,.base _ _ (.emp none),?_⟩;simp only [Option.map_some] at hx ⊢;split at hx
      ·rename_i k q hm hb1 hb2;have hsome:hi'.isSome=true:=by
        cases hi' with
        | none=>simp [bound] at hb1
        | some z=>rfl
       have hb0:bound (hi'.map σ.get) 0 0=some 0:=by
        obtain ⟨k1,h1⟩:=bound_zero hb1;rw [h1];simp [bound]
       rw [hm,hb0,hb2];simp only [hsome,if_true];exact hx
      ·cases hx
   obtain ⟨u,hu1,hu2⟩:=hx2;exact Xm ht hr ho hu hn hlo hhi hmx eA hu1 hu2
  cases mx' with
  | none =>
    simp only at hx;rcases opdo_get ht hmx with ⟨rfl,_⟩|⟨_,_,_,h,_⟩
    ·cases hb1:bound (hi'.map σ.get) xs.length xs.length with
     | none=>simp [hb1] at hx
     | some nh =>
       simp only [hb1] at hx;cases hb2:bound (lo'.map σ.get) 0 nh with
       | none=>simp [hb2] at hx
       | some nl =>
         simp only [hb2] at hx;split at hx
         ·rename_i hhead;cases hx;obtain ⟨hbd,hle1,hle2⟩:=LA (P:=P) ht hlo hhi true hcap hb1 hb2;have hlen:((xs.take nh).drop nl).length=nh-nl:=by simp;omega
          have hes':0<xs.length→es=n:=by
           intro h0;cases xs with
           | nil=>simp at h0
           | cons x xs =>
             have g1:=hes 0 x rfl;simp at hhead;omega
          refine OpOk.quiet hr (c:=.slice (if cap=nl then some A else (some A).map (·.add (nl*n))) (nh-nl) (cap-nl)) ?_ ?_
          ·simp only [execOp,ho,eA,Option.map_none];simp [HG hu hn (some A) xs.length cap nl nh cap _ _ _ hbd]
          ·by_cases hlt:nl<nh
           ·have hne:¬cap=nl:=by omega
            obtain ⟨hf1,hf2⟩:=hfz (by omega);have hesn:=hes' (by omega);subst hesn;rw [if_neg hne];simp only [Option.map_some];rw [Addr.add_spot hf2,←hlen];refine .base _ _ (.lst _ _ _ es (fun i j=>vs (nl+i) j) (by rw [hlen];omega) (fun _=>⟨hf1,rfl⟩) (fun i e he=>hes _ _ (List.drop_take_get he).1) (fun i e j c he hj=>?_) (fun i e j c he hj=>hrel _ _ _ _ (List.drop_take_get he).1 hj));obtain ⟨g1,g2,g3⟩:=hc _ _ _ _ (List.drop_take_get he).1 hj;refine ⟨g1,g2,?_⟩;rw [←g3];simp only;congr 2;rw [Nat.add_mul];omega
           ·have h0:nh-nl=0:=by omega
            have hnil:(xs.take nh).drop nl = []:=List.eq_nil_of_length_eq_zero (by omega);rw [hnil,h0];by_cases hcn:cap=nl
            ·rw [if_pos hcn];exact .base _ _ (.lst [] A _ 0 (fun _ _=>undef) (by simp) (fun h=>by simp at h) (fun i e h=>by simp at h) (fun i e j c h=>by simp at h) (fun i e j c h=>by simp at h))
            ·rw [if_neg hcn];exact .base _ _ (.lst [] (A.add (nl*n)) _ 0 (fun _ _=>undef) (by simp) (fun h=>by simp at h) (fun i e h=>by simp at h) (fun i e j c h=>by simp at h) (fun i e j c h=>by simp at h))
         ·cases hx
    ·cases h
  | some m' =>
    simp only at hx;split at hx
    ·rename_i k q hm hb1 hb2;cases hx;have hbd:=L4 (P:=P) ht hlo hhi hmx (len:=xs.length) (cap:=cap) ⟨k,hm⟩ (bound_zero hb1) hb2;refine OpOk.quiet hr (c:=.slice (some A) 0 0) ?_ (.base _ _ (.emp (some A)));simp only [execOp,ho,eA];simp [HG hu hn (some A) xs.length cap 0 0 0 _ _ _ hbd]
    ·cases hx
 ·-- owned
  rename_i r st p ss off len;split at hx
  ·rename_i es xs hnd;split at hx
   ·rename_i hee;subst hee;obtain ⟨ob,g1,g2,g3,g4⟩:=hb.inv_ref rfl;obtain ⟨g5,A,cap,eA,hcap,g6⟩:=g4 _ _ hnd;cases mx' with
    | none =>
      simp only at hx;rcases opdo_get ht hmx with ⟨rfl,_⟩|⟨_,_,_,h,_⟩
      ·cases hb1:bound (hi'.map σ.get) len len with
       | none=>simp [hb1] at hx
       | some nh =>
         simp only [hb1] at hx;cases hb2:bound (lo'.map σ.get) 0 nh with
         | none=>simp [hb2] at hx
         | some nl =>
           simp only [hb2] at hx;cases hx;obtain ⟨hbd,hle1,hle2⟩:=LA (P:=P) ht hlo hhi true hcap hb1 hb2;refine OpOk.quiet hr (c:=.slice (if cap=nl then some A else (some A).map (·.add (nl*es))) (nh-nl) (cap-nl)) ?_ (.ref _ _ rfl ⟨ob,g1,g2,g3,fun es' xs' hn'=>?_⟩)
           ·simp only [execOp,ho,eA,Option.map_none];simp [HG hu hn (some A) len cap nl nh cap _ _ _ hbd]
           ·rw [hnd] at hn';cases hn';refine ⟨by omega,?_⟩;by_cases hcn:cap=nl
            ·rw [if_pos hcn];exact ⟨A,cap-nl,rfl,by omega,.inl (by omega)⟩
            ·rw [if_neg hcn];refine ⟨A.add (nl*es),cap-nl,rfl,by omega,.inr ?_⟩;rcases g6 with g6|⟨g6,arr,ty,g7,g8⟩
             ·omega
             ·subst g6;refine ⟨?_,arr,ty,g7,?_⟩
              ·rw [Addr.add_none,Nat.add_mul];simp [Nat.add_assoc]
              ·have:off+nl+(cap-nl)=off+cap:=by omega
               rw [this];exact g8
      ·cases h
    | some m' =>
      simp only at hx;split at hx
      ·rename_i k q hm hb1 hb2;cases hx;have hbd:=L4 (P:=P) ht hlo hhi hmx (len:=len) (cap:=cap) ⟨k,hm⟩ (bound_zero hb1) hb2;refine OpOk.quiet hr (c:=.slice (some A) 0 0) ?_ (.base _ _ (.emp (some A)));simp only [execOp,ho,eA];simp [HG hu hn (some A) len cap 0 0 0 _ _ _ hbd]
      ·cases hx
   ·cases hx
  ·cases hx
end
end Go.Mw
namespace Go.Mw
open Go.RowKit
section
variable {P:Program}{sm:List Nat}{o:Oper}{a:Act}{w0:World}{fz0:Nat→Prop}{m:Mem}{w:World}{L:Nat→Nat→Prop}{σ:St}{base:Nat}{i:Ins}{v:AV}{h':List Ob}
variable {fz:Nat→Prop}{R R':AV→Value→Prop}{w':World}
theorem VE (vs:List Value):∀(off:Nat) (k:Nat) (cs:Array Value),off+k+vs.length≤cs.size →
 ((vs.zipIdx k).foldl (fun (cs:Array Value) (x:Value×Nat)=>cs.setIfInBounds (off+x.2) x.1) cs).toList=cs.toList.take (off+k)++vs++cs.toList.drop (off+k+vs.length):=by
 induction vs with
 | nil=>intro off k cs _;simp
 | cons v vs ih =>
   intro off k cs h;simp only [List.length_cons] at h;simp only [List.zipIdx_cons,List.foldl_cons];rw [ih off (k+1) _ (by simp;omega)];have hlt:off+k<cs.toList.length:=by simp;omega
   simp only [Array.toList_setIfInBounds];rw [List.take_set,List.drop_set];rw [if_pos (by omega)];have h1:off+(k+1)=off+k+1:=by omega
   rw [h1,List.take_succ_eq_append_getElem hlt];rw [List.set_append_right _ _ (by simp;omega)];have h2:(List.take (off+k) cs.toList).length=off+k:=by simp;omega
   rw [h2];simp only [Nat.sub_self,List.set_cons_zero,List.append_assoc,List.cons_append,List.nil_append,List.length_cons];congr 3;congr 1;omega
theorem Ady {h:List Ob}{c:Value}{x:AV}(hv:VRel w m.fz (RefR w m h L) x c)(hk:LP h x=true):x.one=true∧c.oneCell'=true∧c.cells = #[c]:=by
 have key:x.one=true∧c.oneCell'=true:=by
  cases x<;>simp only [LP,AV.plain,Bool.false_eq_true] at hk
  ·exact ⟨rfl,by rw [hv.inv_bool];rfl⟩
  ·exact ⟨rfl,by rw [hv.inv_int];rfl⟩
  ·exact ⟨rfl,by rw [hv.inv_str];rfl⟩
  ·refine ⟨rfl,?_⟩;cases hv with
   | base _ _ h=>cases h;rfl
   | ref _ _ hv h=>cases hv
  ·exact ⟨rfl,by rw [hv.inv_nils];rfl⟩
  ·exact ⟨rfl,by rw [hv.inv_nilm];rfl⟩
  ·exact ⟨rfl,by rw [hv.inv_nilf];rfl⟩
  ·obtain ⟨A,e⟩:=hv.inv_emp;exact ⟨rfl,by rw [e];rfl⟩
  ·rcases hv.inv_lst with ⟨_,e⟩|⟨A,cap,es,vs,e,_⟩<;>exact ⟨rfl,by rw [e];rfl⟩
  ·obtain ⟨A,vs,e,_⟩:=hv.inv_pfro;exact ⟨rfl,by rw [e];rfl⟩
  ·split at hk
   ·rename_i hn;obtain ⟨ob,_,_,_,h4⟩:=hv.inv_ref rfl;obtain ⟨_,A,cap,e,_⟩:=h4 _ _ hn;exact ⟨rfl,by rw [e];rfl⟩
   ·cases hk
  ·split at hk
   ·rename_i hn;obtain ⟨ob,_,_,_,h4⟩:=hv.inv_ref rfl;have e:=h4 _ _ hn;exact ⟨rfl,by rw [e];rfl⟩
   ·cases hk
  ·split at hk
   ·rename_i hn;obtain ⟨ob,_,_,_,h4⟩:=hv.inv_ref rfl;have e:=h4 _ hn;exact ⟨rfl,by rw [e];rfl⟩
   ·cases hk
  ·obtain ⟨vs,e,_⟩:=hv.inv_fn;exact ⟨rfl,by rw [e];rfl⟩
  ·obtain ⟨A,cap,e⟩:=hv.inv_ne;exact ⟨rfl,by rw [e];rfl⟩
 refine ⟨key.1,key.2,?_⟩;have:=key.2;cases c<;>simp_all [Value.cells,Value.oneCell']
theorem NR {h:List Ob}{n:Nat}{c:Value}{x:AV}{vs:List AV}(hv:VRel w m.fz (RefR w m h L) x c)(hk:vcells h n x=some vs) :
 vs.length=n∧c.cells.size=n∧∀(j:Nat) (d:AV) (u:Value),vs[j]? = some d→c.cells[j]? = some u→d.one=true∧u.oneCell'=true∧VRel w m.fz (RefR w m h L) d u:=by
 unfold vcells at hk;split at hk
 ·rename_i cs;split at hk
  ·rename_i hn;cases hk;obtain ⟨us,rfl,hl,h1,h2⟩:=hv.inv_agg;refine ⟨hn,by simp [Value.cells,hl,hn],fun j d u hd hu=>?_⟩;simp only [Value.cells] at hu;exact ⟨(h1 j d u hd hu).1,(h1 j d u hd hu).2,h2 j d u hd hu⟩
  ·cases hk
 ·split at hk
  ·rename_i hn;cases hk;obtain ⟨g1,g2,g3⟩:=Ady hv hn.2;refine ⟨by simp [hn.1],by rw [g3];simp [hn.1],fun j d u hd hu=>?_⟩;rw [g3] at hu;cases j with
   | zero=>simp at hd hu;subst hd;subst hu;exact ⟨g1,g2,hv⟩
   | succ j=>simp at hd
  ·cases hk
theorem fill_sound (ht:TR w m σ.h L σ.t a.tmps)(place:Nat→Option (Nat×Nat)) :
 ∀(ps:List (Nat×Operand)) (qs:List (Nat×Nat×Opd)) (cs:List AV) (X:Array Value) (res:List AV),
  (ps.length=qs.length∧∀(k:Nat) (i:Nat) (x:Operand) (off n:Nat) (y:Opd),ps[k]? = some (i,x)→qs[k]? = some (off,n,y)→place i=some (off,n)∧opd x=some y) →
  X.size=cs.length→(∀(j:Nat) (d:AV) (u:Value),cs[j]? = some d→X[j]? = some u→d.one=true∧u.oneCell'=true∧VRel w m.fz (RefR w m σ.h L) d u) →
  bldAV σ cs qs=some res →
  ∃Y,Instr.fill place X (ps.map fun (i,x)=>(i,a.eval x))=some Y∧Y.size=res.length∧∀(j:Nat) (d:AV) (u:Value),res[j]? = some d→Y[j]? = some u→d.one=true∧u.oneCell'=true∧VRel w m.fz (RefR w m σ.h L) d u:=by
 intro ps;induction ps with
 | nil =>
   intro qs cs X res hpq hX hrel hb;cases qs with
   | nil=>simp only [bldAV,Option.some.injEq] at hb;subst hb;exact ⟨X,rfl,hX,hrel⟩
   | cons q qs=>simp at hpq
 | cons p ps ih =>
   intro qs cs X res hpq hX hrel hb;cases qs with
   | nil=>simp at hpq
   | cons q qs =>
     obtain ⟨i,x⟩:=p;obtain ⟨off,n,y⟩:=q;obtain ⟨hpl,hop⟩:=hpq.2 0 i x off n y rfl rfl;simp only [bldAV] at hb;cases hvc:vcells σ.h n (σ.get y) with
     | none=>simp [hvc] at hb
     | some vs =>
       simp only [hvc] at hb;split at hb
       ·rename_i hle;obtain ⟨g1,g2,g3⟩:=NR (ht.get (a:=a) hop) hvc;have hfold:=VE (a.eval x).cells.toList off 0 X (by simp;omega);simp only [List.map_cons,Instr.fill,hpl];have hc:¬((decide ((a.eval x).cells.size≠n)||decide (off+(a.eval x).cells.size>X.size))=true):=by
         simp;omega
        rw [if_neg hc];have heq:((a.eval x).cells.zipIdx.foldl (fun (cs:Array Value) (x:Value×Nat)=>cs.setIfInBounds (off+x.2) x.1) X)=(X.toList.take off++(a.eval x).cells.toList++X.toList.drop (off+n)).toArray:=by
         apply Array.toList_inj.1;rw [←Array.foldl_toList,Array.toList_zipIdx,hfold];simp [g2]
        rw [heq];refine ih qs _ _ res ⟨by simpa using hpq.1,fun k i x off n y h1 h2=>hpq.2 (k+1) i x off n y (by simpa using h1) (by simpa using h2)⟩ ?_ ?_ hb
        ·simp [g1,g2];omega
        ·intro j d u hd hu;have hu':(X.toList.take off++(a.eval x).cells.toList++X.toList.drop (off+n))[j]? = some u:=by simpa using hu
         rcases Nat.lt_or_ge j off with hj|hj
         ·rw [List.append_assoc,List.getElem?_append_left (by simp;omega),List.getElem?_take,if_pos hj] at hd;rw [List.append_assoc,List.getElem?_append_left (by simp;omega),List.getElem?_take,if_pos hj] at hu';exact hrel j d u hd (by simpa using hu')
         ·rcases Nat.lt_or_ge j (off+n) with hj2|hj2
          ·rw [List.getElem?_append_left (by simp;omega),List.getElem?_append_right (by simp;omega)] at hd;rw [List.getElem?_append_left (by simp [g2];omega),List.getElem?_append_right (by simp;omega)] at hu';have e1:(List.take off cs).length=off:=by simp;omega
           have e2:(List.take off X.toList).length=off:=by simp;omega
           rw [e1] at hd;rw [e2] at hu';exact g3 _ d u hd (by simpa using hu')
          ·rw [List.getElem?_append_right (by simp;omega)] at hd;rw [List.getElem?_append_right (by simp [g2];omega)] at hu';have e1:(List.take off cs++vs).length=off+n:=by simp;omega
           have e2:(List.take off X.toList++(a.eval x).cells.toList).length=off+n:=by simp [g2];omega
           rw [e1,List.getElem?_drop] at hd;rw [e2,List.getElem?_drop] at hu';have e3:off+n+(j-(off+n))=j:=by omega
           rw [e3] at hd hu';exact hrel j d u hd (by simpa using hu')
       ·cases hb
end
end Go.Mw
namespace Go.Mw
open Go.RowKit
section
variable {P:Program}{sm:List Nat}{o:Oper}{a:Act}{w0:World}{fz0:Nat→Prop}{m:Mem}{w:World}{L:Nat→Nat→Prop}{σ:St}{base:Nat}{i:Ins}{v:AV}{h':List Ob}
variable {fz:Nat→Prop}{R R':AV→Value→Prop}{w':World}
theorem AaM:∀(fs:List Field),(fs.all fun f=>(szT P f.type).isSome)=true →
 ∃ps:List (Nat×Nat),(fs.mapM (fun f=>do pure (f.offset,←sizeOf f.type)):Sem (List (Nat×Nat))).run P w = .ok ps w∧∀(i:Nat) (f:Field) (n:Nat),fs[i]? = some f→szT P f.type=some n→ps[i]? = some (f.offset,n):=by
 intro fs;induction fs with
 | nil=>intro _;exact ⟨[],by simp,fun i f n h=>by simp at h⟩
 | cons f fs ih =>
   intro h;simp only [List.all_cons,Bool.and_eq_true] at h;obtain ⟨n,hn⟩:=Option.isSome_iff_exists.1 h.1;obtain ⟨ps,h1,h2⟩:=ih h.2;refine ⟨(f.offset,n)::ps,?_,fun i g k hg hk=>?_⟩
   ·rw [List.mapM_cons];simp [Ba hn];simp at h1;simp [h1]
   ·cases i with
    | zero=>simp at hg;subst hg;rw [hn] at hk;cases hk;rfl
    | succ i=>simp at hg ⊢;exact h2 i g k hg hk
theorem Yk {fs:Array Field}:∀ {ps:List (Nat×Operand)}{qs:List (Nat×Nat×Opd)},Sm P fs ps=some qs →
 ps.length=qs.length∧∀(k:Nat) (i:Nat) (x:Operand) (off n:Nat) (y:Opd),ps[k]? = some (i,x)→qs[k]? = some (off,n,y)→∃f,fs[i]? = some f∧f.offset=off∧szT P f.type=some n∧opd x=some y:=by
 intro ps;induction ps with
 | nil=>intro qs h;simp [Sm] at h;subst h;exact ⟨rfl,fun k i x off n y h=>by simp at h⟩
 | cons p ps ih =>
   intro qs h;obtain ⟨i,x⟩:=p;simp only [Sm] at h;cases hf:fs[i]? with
   | none=>simp [hf] at h
   | some f =>
     simp only [hf] at h;split at h
     ·rename_i n y r h1 h2 h3;cases h;obtain ⟨g1,g2⟩:=ih h3;refine ⟨by simp [g1],fun k i' x' off n' y' hp hq=>?_⟩;cases k with
      | zero=>simp at hp hq;obtain ⟨rfl,rfl⟩:=hp;obtain ⟨rfl,rfl,rfl⟩:=hq;exact ⟨f,hf,rfl,h1,h2⟩
      | succ k=>exact g2 k i' x' off n' y' (by simpa using hp) (by simpa using hq)
     ·cases h
theorem partsA_spec {n:Nat}:∀ {ps:List (Nat×Operand)}{qs:List (Nat×Nat×Opd)},RQ n ps=some qs →
 ps.length=qs.length∧∀(k:Nat) (i:Nat) (x:Operand) (off n':Nat) (y:Opd),ps[k]? = some (i,x)→qs[k]? = some (off,n',y)→off=i*n∧n'=n∧opd x=some y:=by
 intro ps;induction ps with
 | nil=>intro qs h;simp [RQ] at h;subst h;exact ⟨rfl,fun k i x off n' y h=>by simp at h⟩
 | cons p ps ih =>
   intro qs h;obtain ⟨i,x⟩:=p;simp only [RQ] at h;split at h
   ·rename_i y r h1 h2;cases h;obtain ⟨g1,g2⟩:=ih h2;refine ⟨by simp [g1],fun k i' x' off n' y' hp hq=>?_⟩;cases k with
    | zero=>simp at hp hq;obtain ⟨rfl,rfl⟩:=hp;obtain ⟨rfl,rfl,rfl⟩:=hq;exact ⟨rfl,rfl,h1⟩
    | succ k=>exact g2 k i' x' off n' y' (by simpa using hp) (by simpa using hq)
   ·cases h
theorem ok_bld (ht:TR w m σ.h L σ.t a.tmps)(hr:Rel w0 fz0 m σ.h w){t:TypeId}{ps:Array (Nat×Operand)}(ho:o.op = .build t ps)(hc:BY P sm o=some i)
 (hx:ax base i σ=some (v,h')):OpOk P o a w0 fz0 m σ.h w L v h':=by
 simp only [BY,ho] at hc;cases hz:KL P t with
 | none=>simp [hz] at hc
 | some zz =>
   simp only [hz] at hc;obtain ⟨d,zv,hi,hzv,hov⟩:=Eb hz;cases zz<;>simp only [reduceCtorEq] at hc;rename_i z;have hzr:=Tf (w:=w) (fz:=m.fz) hov;obtain ⟨Z,rfl,hZl,hZ1,hZ2⟩:∃Z:Array Value,zv = .agg Z∧Z.size=z.length∧(∀(j:Nat) (d:AV) (u:Value),z[j]? = some d→Z[j]? = some u→d.one=true∧u.oneCell'=true)∧(∀(j:Nat) (d:AV) (u:Value),z[j]? = some d→Z[j]? = some u→VRel0 w m.fz d u):=by
    cases hzr with|agg _ vs h1 h2 h3=>exact ⟨vs,rfl,h1,h2,h3⟩
   have hbase:∀(j:Nat) (d:AV) (u:Value),z[j]? = some d→Z[j]? = some u→d.one=true∧u.oneCell'=true∧VRel w m.fz (RefR w m σ.h L) d u:=fun j d u h1 h2=>⟨(hZ1 j d u h1 h2).1,(hZ1 j d u h1 h2).2,.base _ _ (hZ2 j d u h1 h2)⟩;have hfin:∀(place:Nat→Option (Nat×Nat)) (qs:List (Nat×Nat×Opd)),
    (ps.toList.length=qs.length∧∀(k:Nat) (i:Nat) (x:Operand) (off n:Nat) (y:Opd),ps.toList[k]? = some (i,x)→qs[k]? = some (off,n,y)→place i=some (off,n)∧opd x=some y) →
    ax base (.bld z qs) σ=some (v,h')→(∀Y,Instr.fill place Z (ps.toList.map fun (i,x)=>(i,a.eval x))=some Y→(Instr.build t (ps.map fun (i,x)=>(i,a.eval x))).run P w = .ok (.agg Y) w)→OpOk P o a w0 fz0 m σ.h w L v h':=by
    intro place qs hpq hx hrun;simp only [ax] at hx;cases hb:bldAV σ z qs with
    | none=>simp [hb] at hx
    | some res =>
      simp [hb] at hx;obtain ⟨rfl,rfl⟩:=hx;obtain ⟨Y,h1,h2,h3⟩:=fill_sound ht place ps.toList qs z Z res hpq hZl hbase hb;refine OpOk.quiet hr (c:=.agg Y) ?_ (.agg _ _ h2 (fun j d u hd hu=>⟨(h3 j d u hd hu).1,(h3 j d u hd hu).2.1⟩) (fun j d u hd hu=>(h3 j d u hd hu).2.2));simp only [execOp,ho];simp only [Sem.run_bind,hrun Y h1,Result.andThen,Sem.run_pure]
   split at hc
   ·rename_i fs hu;split at hc
    ·rename_i hall;cases hps:Sm P fs ps.toList with
     | none=>simp [hps] at hc
     | some qs =>
       simp [hps] at hc;subst hc;obtain ⟨pl,hp1,hp2⟩:=AaM (P:=P) (w:=w) fs.toList hall;obtain ⟨g1,g2⟩:=Yk hps;refine hfin (pl[·]?) qs ⟨g1,fun k i x off n y h1 h2=>?_⟩ hx (fun Y hY=>?_)
       ·obtain ⟨f,k1,rfl,k2,k3⟩:=g2 k i x off n y h1 h2;exact ⟨hp2 i f n (by simpa using k1) k2,k3⟩
       ·simp only [Instr.build,Sem.run_bind,BA hi hzv,Result.andThen,run_underlying hu];have hm:(fs.mapM (fun f=>do pure (f.offset,←sizeOf f.type)):Sem (Array (Nat×Nat))).run P w = .ok pl.toArray w:=by
         rw [Array.mapM_eq_mapM_toList];change ((fs.toList.mapM (fun f=>do pure (f.offset,←sizeOf f.type)):Sem (List (Nat×Nat))) >>= fun l=>pure l.toArray).run P w=_;rw [Sem.run_bind,hp1];rfl
        have hps':(ps.map fun (i,x)=>(i,a.eval x)).toList=ps.toList.map fun (i,x)=>(i,a.eval x):=by simp
        simp only [hm,Result.andThen,hps',Value.cells];have hpl:(fun i:Nat=>pl.toArray[i]?)=fun i:Nat=>pl[i]? := by funext i;simp
        rw [hpl,hY];simp
    ·cases hc
   ·rename_i n e hu;split at hc
    ·rename_i k hk;cases hps:RQ k ps.toList with
     | none=>simp [hps] at hc
     | some qs =>
       simp [hps] at hc;subst hc;obtain ⟨g1,g2⟩:=partsA_spec hps;refine hfin (fun i=>some (i*k,k)) qs ⟨g1,fun k' i x off n y h1 h2=>?_⟩ hx (fun Y hY=>?_)
       ·obtain ⟨rfl,rfl,k3⟩:=g2 k' i x off n y h1 h2;exact ⟨rfl,k3⟩
       ·simp only [Instr.build,Sem.run_bind,BA hi hzv,Result.andThen,run_underlying hu,Ba hk];have:(ps.map fun (i,x)=>(i,a.eval x)).toList=ps.toList.map fun (i,x)=>(i,a.eval x):=by simp
        rw [this];simp only [Value.cells] at hY ⊢;rw [hY];simp
    ·cases hc
   ·cases hc
end
end Go.Mw
