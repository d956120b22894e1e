/- From the abstract machine to a row. -/
import Derived.Test.YtondemeliogjmaaGreatM29
import Derived.ProofKit
import Derived.OpenShut
import Derived.JoinedCond
import Derived.SizedLaws
set_option linter.unusedVariables false
set_option linter.unusedSimpArgs false
namespace Go.Mw
open Go.WideShapes Go.ChangeShapes Go.ChangeAt Go.RowKit Go.Proofs
set_option maxRecDepth 100000
theorem own:ownKnob Tryz.prog.godebug=none:=by kernel_rfl
theorem Abx:laidOutB Tryz.prog=true:=by kernel_rfl
theorem ZT {xs:List AV}{b:Bool}(h:packV xs = .bool b):xs = [.bool b]:=by
 match xs,h with
 | [x],h=>rw [show packV [x]=x from rfl] at h;rw [h]
 | [],h=>cases h
 | _::_::_,h=>cases h
theorem vrel_bool {w:World}{fz:Nat→Prop}{R:AV→Value→Prop}{b:Bool}{c:Value}(h:VRel w fz R (.bool b) c):c = .bool b:=by
 cases h with
 | base v c h=>cases h;rfl
 | ref v c hv h=>cases hv
theorem calls_true {f:FuncId}{xs:List AV}(h:FnT G f xs (Bo true)){w:World}{args:Array Value}(ha:args.size=xs.length)
 (hv:∀(j:Nat) (x:AV) (c:Value),xs[j]? = some x→args[j]? = some c→VRel0 w (fun b=>b<w.heap.size) x c) :
 Calls Tryz.prog f args w fun e w'=>e = .returned (.bool true)∧Below w.heap.size w w':=by
 obtain ⟨F,n,rs,σ1,hf,h1,h2,h3,h4,hr,hR,hfl⟩:=h;refine (Aka good hf h1 hr (w:=w) (fz:=fun b=>b<w.heap.size) (fun b hb=>hb) (args:=args) ⟨by simpa using ha,fun j v c hj hc=>.base _ _ (hv j v c hj (by rw [Array.getElem?_toList] at hc;exact hc))⟩).mono ?_;rintro e w' ⟨cs,he,hb,fz',hl,hcs⟩;have e1:=ZT hR;rw [e1] at hl hcs
 match cs,hl with
 | [c],_ =>
   have:=vrel_bool (hcs 0 _ c rfl rfl);subst this;exact ⟨he,hb⟩
theorem Z1 {H:Type}{enc:TypeId×Value→H}{f:Func}{s:ChangeSpec}{W W':World}{args:Array Value}{v:Value}{ds:List (DataW H)}{before:List MemPlace}
 (hW:DataW.Whole enc Tryz.prog f.params.toList s.vars false W args.toList ds [] before) (hvs:s.vars = [])
 (hres:DataW.TrodAll enc Tryz.prog W' W.heap.size (fun _=>false) false f.resultTypes.toList (v.resultList f.resultTypes.size) (s.fn H (ds++[])).results [])
 (hargs:DataW.TrodAll enc Tryz.prog W' 0 (fun b=>decide (b<W.heap.size)) true f.params.toList args.toList (s.fn H (ds++[])).args before)
 (hsv:(s.fn H (ds++[])).vars = []) (hb:Below W.heap.size W W') :
 s.post enc Tryz.prog f false true false false W args v W':=by
 refine ⟨ds,[],before,[],before,[],hW,hres,hargs,by rw [hvs,hsv];rfl,World.keptBut_mono (fun p hp=>⟨hp,Or.inr (Or.inl hp)⟩) (hb.frame _),fun h=>by cases h⟩
end Go.Mw
namespace Go.Mw
open Go.WideShapes Go.ChangeShapes Go.Proofs
set_option maxRecDepth 100000
def WtOk {H:Type}(t:TypeId)(d:DataW H):Prop:=∀n∈d.weights Tryz.prog t,n≤reachBytes
theorem Q9 {H:Type}{P:Program}{e:TypeId}{l:List (DataW H)}{d:DataW H}(hd:d∈l){n:Nat}(hn:n∈d.weights P e):n∈DataW.weightsAll P e l:=by
 induction l with
 | nil=>cases hd
 | cons x l ih =>
   simp only [DataW.weightsAll,List.mem_append];rcases List.mem_cons.1 hd with rfl|h
   ·exact .inl hn
   ·exact .inr (ih h)
section
variable {H:Type}{enc:TypeId×Value→H}{w:World}{fuel:Nat}{cs:List Value}{x:DataW H×List MemPlace}
theorem VK {t e:TypeId}{α:Type}[Inhabited α](E:α→AV)(B:α→Prop)(ht:Tryz.prog.underlying t=some (.slice e))(h0:0<Tryz.prog.cellsOf e)(hby:1≤Tryz.prog.bytesOf e)
 (he:∀(n:Nat) (cs:List Value) (y:DataW H×List MemPlace),Rd enc Tryz.prog w n e cs=some y→∃a,CellsR w (E a) cs∧(E a).cells.length=Tryz.prog.cellsOf e∧(WtOk e y.1→B a))
 (h:Rd enc Tryz.prog w fuel t cs=some x):∃l:List α,CellsR w (.lst (l.map E)) cs∧(WtOk t x.1→l.length*Tryz.prog.bytesOf e≤140737488355328∧∀i<l.length,B l[i]!):=by
 obtain ⟨l,h1,⟨h2,rfl⟩|⟨es,rest,h2,h3,h4⟩⟩:=AeL E (fun a d=>WtOk e d→B a) ht h0 he h
 ·exact ⟨[],h1,fun _=>⟨by simp,fun i hi=>absurd hi (by simp)⟩⟩
 ·refine ⟨l,h1,fun hw=>?_⟩;rw [h2] at hw;unfold WtOk at hw;simp only [DataW.weights,ht] at hw;constructor
  ·have h5:=hw _ (List.mem_cons_self ..);have h6:l.length*Tryz.prog.bytesOf e≤(es.length+rest.length)*Tryz.prog.bytesOf e:=Nat.mul_le_mul_right _ (by omega);have h7:=reachBytes_lt;omega
  ·intro i hi;obtain ⟨d,h5,h6⟩:=h4 i hi;refine h6 (fun n hn=>hw n (List.mem_cons_of_mem _ (List.mem_append_left _ (Q9 (List.mem_of_getElem? h5) hn))))
theorem Pc {t e:TypeId}{α:Type}[Inhabited α](E:α→AV)(B:α→Prop)(ht:Tryz.prog.underlying t=some (.slice e))(h0:0<Tryz.prog.cellsOf e)(hby:1≤Tryz.prog.bytesOf e)
 (he:∀(n:Nat) (cs:List Value) (y:DataW H×List MemPlace),Rd enc Tryz.prog w n e cs=some y→∃a,CellsR w (E a) cs∧(E a).cells.length=Tryz.prog.cellsOf e∧(WtOk e y.1→B a))
 (h:Rd enc Tryz.prog w fuel t cs=some x):∃l:List α,CellsR w (.lst (l.map E)) cs∧(WtOk t x.1→l.length≤140737488355328∧∀i<l.length,B l[i]!):=by
 obtain ⟨l,h1,h2⟩:=VK E B ht h0 hby he h;exact ⟨l,h1,fun hw=>⟨Nat.le_trans (Nat.le_mul_of_pos_right _ hby) (h2 hw).1,(h2 hw).2⟩⟩
theorem Tt {t u:TypeId}{fs:Array Field}{parts:List (DataW H)}{j:Nat}{d:DataW H}(ht:Tryz.prog.underlying t=some (.struct fs))(hw:WtOk t (.agg parts))(hj:(fs.toList.map (·.type))[j]? = some u)(hd:parts[j]? = some d):WtOk u d:=by
 intro n hn;refine hw n ?_;simp only [DataW.weights,ht];exact DataW.weights_mem_each hj hd n hn
theorem Ade {k:IntKind}{t:TypeId}(ht:Tryz.prog.underlying t=some (.int k))(h:Rd enc Tryz.prog w fuel t cs=some x):∃n,CellsR w (.int k n) cs∧n≤k.max:=by
 obtain ⟨n,rfl,rfl,hw⟩:=DataW.trod_int ht h;refine ⟨n,⟨rfl,fun j c hj=>?_⟩,?_⟩
 ·cases j with
  | zero=>simp [AV.cells] at hj;subst hj;exact ⟨rfl,_,rfl,rfl,.int _ _⟩
  | succ j=>simp [AV.cells] at hj
 ·simp only [Lit.wf,Bool.and_eq_true,decide_eq_true_eq] at hw;exact hw.2
theorem Aeo (h:Rd enc Tryz.prog w fuel 22 cs=some x):∃l:List ByteArray,CellsR w (.lst (l.map .str)) cs∧(WtOk 22 x.1→l.length≤140737488355328):=by
 obtain ⟨l,h1,h2⟩:=Pc AV.str (fun _=>True) Tryz.underlying22 (of_decide_eq_true (by kernel_rfl)) (of_decide_eq_true (by kernel_rfl)) (fun n cs y h=>by
  obtain ⟨s,h1,h2⟩:=AjC Tryz.underlying9 h;exact ⟨s,h1,by kernel_rfl,fun _=>trivial⟩) h
 exact ⟨l,h1,fun hw=>(h2 hw).1⟩
theorem Y8 (h:Rd enc Tryz.prog w fuel 43 cs=some x):∃l:List Int,CellsR w (.lst (l.map I)) cs∧(WtOk 43 x.1→l.length≤140737488355328∧∀i<l.length,l[i]! < 9223372036854775808):=by
 obtain ⟨l,h1,h2⟩:=Pc I (fun n=>n<9223372036854775808) Tryz.underlying43 (of_decide_eq_true (by kernel_rfl)) (of_decide_eq_true (by kernel_rfl)) (fun n cs y h=>by
  obtain ⟨s,h1,h2⟩:=Ade Tryz.underlying3 h
  exact ⟨s,h1,by kernel_rfl,fun _=>by have:IntKind.i64.max=9223372036854775807:=by decide
                                      omega⟩) h
 exact ⟨l,h1,fun hw=>h2 hw⟩
theorem AhM (h:Rd enc Tryz.prog w fuel 75 cs=some x):∃a:Stt,CellsR w (eSt a) cs∧(eSt a).cells.length=Tryz.prog.cellsOf 75∧(WtOk 75 x.1→(a.A.length≤140737488355328∧a.X.length≤140737488355328)∧∀j<a.A.length,a.A[j]! < 9223372036854775808):=by
 obtain ⟨xs,n,_,hx,hl,hxs,hf⟩:=DataW.trod_struct Tryz.underlying75 h;have f0:=hf 0 _ rfl;have f1:=hf 1 _ rfl;simp at hxs;rw [List.getElem?_eq_getElem (by omega)] at f0 f1;obtain ⟨A,hA,hA2⟩:=Y8 f0;obtain ⟨X,hX,hX2⟩:=Y8 f1;refine ⟨⟨A,X⟩,Oc (by rw [hl];kernel_rfl) (fun k v hk=>?_),by kernel_rfl,fun hw=>?_⟩
 ·match k,hk with
  | 0,hk=>simp at hk;subst hk;exact ⟨rfl,hA⟩
  | 1,hk=>simp at hk;subst hk;exact ⟨rfl,hX⟩
  | k+2,hk=>simp at hk
 ·rw [hx] at hw;have w0:=Tt (j:=0) Tryz.underlying75 hw rfl (by rw [List.getElem?_map,List.getElem?_eq_getElem (by omega)];rfl);have w1:=Tt (j:=1) Tryz.underlying75 hw rfl (by rw [List.getElem?_map,List.getElem?_eq_getElem (by omega)];rfl);exact ⟨⟨(hA2 w0).1,(hX2 w1).1⟩,(hA2 w0).2⟩
theorem Aia (h:Rd enc Tryz.prog w fuel 25 cs=some x):∃s:Spc,CellsR w (eSp s) cs∧(WtOk 25 x.1→SpBig s):=by
 obtain ⟨xs,n,_,hx,hl,hxs,hf⟩:=DataW.trod_struct Tryz.underlying25 h;have f0:=hf 0 _ rfl;have f1:=hf 1 _ rfl;simp at hxs;rw [List.getElem?_eq_getElem (by omega)] at f0 f1;obtain ⟨A,hA,hA2⟩:=Aeo f0;obtain ⟨S,hS,hS2⟩:=Pc eSt (fun a=>(a.A.length≤140737488355328∧a.X.length≤140737488355328)∧∀j<a.A.length,a.A[j]! < 9223372036854775808) Tryz.underlying23 (of_decide_eq_true (by kernel_rfl)) (of_decide_eq_true (by kernel_rfl)) (fun n cs y h=>AhM h) f1;refine ⟨⟨A,S⟩,Oc (by rw [hl];kernel_rfl) (fun k v hk=>?_),fun hw=>?_⟩
 ·match k,hk with
  | 0,hk=>simp at hk;subst hk;exact ⟨rfl,hA⟩
  | 1,hk=>simp at hk;subst hk;exact ⟨rfl,hS⟩
  | k+2,hk=>simp at hk
 ·rw [hx] at hw;have w0:=Tt (j:=0) Tryz.underlying25 hw rfl (by rw [List.getElem?_map,List.getElem?_eq_getElem (by omega)];rfl);have w1:=Tt (j:=1) Tryz.underlying25 hw rfl (by rw [List.getElem?_map,List.getElem?_eq_getElem (by omega)];rfl);exact ⟨hA2 w0,(hS2 w1).1,fun i hi=>((hS2 w1).2 i hi).1,fun i hi=>((hS2 w1).2 i hi).2⟩
end
end Go.Mw
namespace Go.Mw
open Go.WideShapes Go.ChangeShapes Go.Proofs
set_option maxRecDepth 100000
section
variable {H:Type}{enc:TypeId×Value→H}{w:World}{fuel:Nat}{cs:List Value}{x:DataW H×List MemPlace}
theorem AeW (h:Rd enc Tryz.prog w fuel 43 cs=some x):∃l:List Int,CellsR w (eW l) cs∧(eW l).cells.length=Tryz.prog.cellsOf 43∧(WtOk 43 x.1→l.length≤17592186044416):=by
 obtain ⟨l,h1,h2⟩:=VK I (fun _=>True) Tryz.underlying43 (of_decide_eq_true (by kernel_rfl)) (of_decide_eq_true (by kernel_rfl)) (fun n cs y h=>by
  obtain ⟨s,h1,h2⟩:=Ade Tryz.underlying3 h;exact ⟨s,h1,by kernel_rfl,fun _=>trivial⟩) h
 have e:Tryz.prog.bytesOf 3=8:=by kernel_rfl
 rw [e] at h2;exact ⟨l,h1,by kernel_rfl,fun hw=>by have:=(h2 hw).1;omega⟩
theorem AbA (h:Rd enc Tryz.prog w fuel 42 cs=some x):∃L:List (List Int),CellsR w (.lst (L.map eW)) cs∧(WtOk 42 x.1→L.length≤140737488355328∧∀i<L.length,L[i]!.length≤17592186044416):=by
 obtain ⟨L,h1,h2⟩:=Pc eW (fun l=>l.length≤17592186044416) Tryz.underlying42 (of_decide_eq_true (by kernel_rfl)) (of_decide_eq_true (by kernel_rfl)) (fun n cs y h=>AeW h) h;exact ⟨L,h1,h2⟩
end
end Go.Mw
