/- Arguments that are read as data, as values of the abstract machine. -/
import Derived.Test.YtondemeliogjmaaGreatM27
import Derived.ChangeShapes
import Derived.ChangeArms
set_option linter.unusedVariables false
set_option linter.unusedSimpArgs false
namespace Go.Mw
open Go.WideShapes Go.ChangeShapes
def CellsR (w:World)(e:AV)(cs:List Value):Prop :=
 cs.length=e.cells.length∧∀(j:Nat) (c:AV),e.cells[j]? = some c→c.one=true∧∃v,cs[j]? = some v∧v.oneCell'=true∧VRel0 w (fun b=>b<w.heap.size) c v
section
variable {H:Type}{enc:TypeId×Value→H}{P:Program}{w:World}{fuel:Nat}{t:TypeId}{cs:List Value}{x:DataW H×List MemPlace}
abbrev Rd (enc:TypeId×Value→H)(P:Program)(w:World)(n:Nat)(t:TypeId)(cs:List Value):Option (DataW H×List MemPlace):=DataW.trod enc P w 0 (fun _=>true) true n t cs
theorem AjC (ht:P.underlying t=some .string)(h:Rd enc P w fuel t cs=some x):∃s:ByteArray,CellsR w (.str s) cs∧x.1 = .lit (.string s.data.toList):=by
 obtain ⟨s,rfl,rfl,_⟩:=DataW.trod_string ht h;refine ⟨s,⟨rfl,fun j c hj=>?_⟩,rfl⟩;cases j with
 | zero=>simp [AV.cells] at hj;subst hj;exact ⟨rfl,_,rfl,rfl,.str _⟩
 | succ j=>simp [AV.cells] at hj
theorem XH {α:Type}[Inhabited α]{p:Nat→α→Prop}{n:Nat}(h:∀i<n,∃a,p i a):∃l:List α,l.length=n∧∀i<n,p i l[i]!:=by
 induction n with
 | zero=>exact ⟨[],rfl,fun i hi=>absurd hi (Nat.not_lt_zero i)⟩
 | succ n ih =>
   obtain ⟨l,hl,hp⟩:=ih (fun i hi=>h i (Nat.lt_succ_of_lt hi));obtain ⟨a,ha⟩:=h n (Nat.lt_succ_self n);refine ⟨l++[a],by simp [hl],fun i hi=>?_⟩;rcases Nat.lt_or_eq_of_le (Nat.le_of_lt_succ hi) with h1|rfl
   ·have e:(l++[a])[i]! = l[i]!:=by
     rw [getElem!_pos (l++[a]) i (by simp;omega),getElem!_pos l i (by omega),List.getElem_append_left (by omega)]
    rw [e];exact hp i h1
   ·have e:(l++[a])[i]! = a:=by
     rw [getElem!_pos (l++[a]) i (by simp;omega),List.getElem_append_right (by omega)];simp [hl]
    rw [e];exact ha
theorem AeL {e:TypeId}{α:Type}[Inhabited α](E:α→AV)(B:α→DataW H→Prop)(ht:P.underlying t=some (.slice e))(h0:0<P.cellsOf e)
 (he:∀(n:Nat) (cs:List Value) (y:DataW H×List MemPlace),Rd enc P w n e cs=some y→∃a,CellsR w (E a) cs∧(E a).cells.length=P.cellsOf e∧B a y.1)
 (h:Rd enc P w fuel t cs=some x):∃l:List α,CellsR w (.lst (l.map E)) cs∧(x.1 = .nil∧l = []∨∃es rest:List (DataW H),x.1 = .slice es rest∧es.length=l.length∧∀i<l.length,∃d,es[i]? = some d∧B l[i]! d):=by
 rcases DataW.trod_slice ht h with ⟨rfl,rfl⟩|⟨a,len,cap,elems,rest,n,rfl,rfl,rfl,hb,hl,hm,hlen,hel,_,_⟩
 ·refine ⟨[],⟨rfl,fun j c hj=>?_⟩,Or.inl ⟨rfl,rfl⟩⟩;cases j with
  | zero=>simp [AV.cells] at hj;subst hj;exact ⟨rfl,_,rfl,rfl,.lstn⟩
  | succ j=>simp [AV.cells] at hj
 have each:∀i<len,∃a':α,∃cs' y,w.cells? 0 (a.add (i*P.cellsOf e)) (P.cellsOf e)=some cs'∧elems[i]? = some y∧CellsR w (E a') cs'∧(E a').cells.length=P.cellsOf e∧B a' y.1:=by
  intro i hi;have h1:=hel i hi;have h2:∃y,elems[i]? = some y:=⟨elems[i]'(by omega),List.getElem?_eq_getElem (by omega)⟩;obtain ⟨y,hy⟩:=h2;rw [hy,Option.bind_eq_some_iff] at h1;obtain ⟨cs',hc,hr⟩:=h1;obtain ⟨a',g1,g2,g3⟩:=he _ _ _ hr;exact ⟨a',cs',y,hc,hy,g1,g2,g3⟩
 obtain ⟨l,hl2,hp⟩:=XH each;subst hl2;have hget:∀(i:Nat) (v:AV),(l.map E)[i]? = some v→i<l.length∧v=E l[i]!:=by
  intro i v hv;rw [List.getElem?_map,Option.map_eq_some_iff] at hv;obtain ⟨b,hb1,hb2⟩:=hv;have:=(List.getElem?_eq_some_iff.1 hb1);obtain ⟨h1,h2⟩:=this;exact ⟨h1,by rw [getElem!_pos l i h1,h2,hb2]⟩
 have hraw:∀i<l.length,∀(j:Nat) (c:AV),(E l[i]!).cells[j]? = some c→c.one=true∧∃v,w.cell? ((a.add (i*P.cellsOf e)).add j)=some v∧v.oneCell'=true∧VRel0 w (fun b=>b<w.heap.size) c v:=by
  intro i hi j c hj;obtain ⟨cs',y,g1,_,g3,g4,_⟩:=hp i hi;obtain ⟨g5,g6⟩:=g3;obtain ⟨h1,v,h2,h3,h4⟩:=g6 j c hj;have hjl:j<P.cellsOf e:=by rw [←g4];exact (List.getElem?_eq_some_iff.1 hj).1
  have g7:=(World.cells?_some g1).2.2 j hjl;rw [h2] at g7;exact ⟨h1,v,g7,h3,h4⟩
 have hspot:0<l.length→a.block<w.heap.size∧a.spot=none:=by
  intro hpos;obtain ⟨_,_,_,_,_,g4,_⟩:=hp 0 hpos;obtain ⟨c,hc⟩:∃c,(E l[0]!).cells[0]? = some c:=⟨_,List.getElem?_eq_getElem (by omega)⟩;obtain ⟨_,v,h2,_⟩:=hraw 0 hpos 0 c hc;have e1:(a.add (0*P.cellsOf e)).add 0=a:=by simp [Addr.add]
  rw [e1] at h2;unfold World.cell? at h2;split at h2
  ·rename_i c2 _ _ hh;refine ⟨(Array.getElem?_eq_some_iff.1 hh).1,?_⟩;split at h2
   ·cases h2
   ·rename_i hs;simpa using hs
  ·cases h2
 have hcell:∀i<l.length,∀(j:Nat) (c:AV),(E l[i]!).cells[j]? = some c→c.one=true∧∃v,w.cell? ⟨a.block,a.off+(i*P.cellsOf e+j),a.spot⟩=some v∧v.oneCell'=true∧VRel0 w (fun b=>b<w.heap.size) c v:=by
  intro i hi j c hj;have h:=hraw i hi j c hj;have hs:=(hspot (by omega)).2;have e1:(a.add (i*P.cellsOf e)).add j=⟨a.block,a.off+(i*P.cellsOf e+j),a.spot⟩:=by
   cases a;simp only at hs;subst hs;simp only [Addr.add];split<;>split<;>simp_all<;>omega
  rw [e1] at h;exact h
 refine ⟨l,⟨rfl,fun j c hj=>?_⟩,Or.inr ⟨_,_,rfl,by simpa using hlen,fun i hi=>?_⟩⟩
 ·cases j with
  | succ j=>simp [AV.cells] at hj
  | zero =>
    simp [AV.cells] at hj;subst hj;refine ⟨rfl,_,rfl,rfl,?_⟩;have:=VRel0.lst (w:=w) (fz:=fun b=>b<w.heap.size) (l.map E) a cap (P.cellsOf e) (fun i j=>(w.cell? ⟨a.block,a.off+(i*P.cellsOf e+j),none⟩).getD (.int .i64 0)) (by simpa using hl) (fun h=>hspot (by simpa using h))
     (fun i v hv=>by obtain ⟨h1,rfl⟩:=hget i v hv;obtain ⟨_,_,_,_,_,g4,_⟩:=hp i h1;exact g4)
     (fun i v j c hv hc=>by
       obtain ⟨h1,rfl⟩:=hget i v hv;obtain ⟨g1,u,g2,g3,g4⟩:=hcell i h1 j c hc;rw [(hspot (by omega)).2] at g2;rw [g2];exact ⟨g1,g3,rfl⟩)
     (fun i v j c hv hc=>by
       obtain ⟨h1,rfl⟩:=hget i v hv;obtain ⟨g1,u,g2,g3,g4⟩:=hcell i h1 j c hc;rw [(hspot (by omega)).2] at g2;rw [g2];exact g4)
    rwa [List.length_map] at this
 ·obtain ⟨cs',y,_,g2,_,_,g5⟩:=hp i hi;exact ⟨y.1,by rw [List.getElem?_map,g2];rfl,g5⟩
theorem Oc {vs:List AV}(hl:cs.length=vs.length)(h:∀(k:Nat) (v:AV),vs[k]? = some v→v.cells = [v]∧CellsR w v ((cs.drop k).take 1)):CellsR w (.agg vs) cs:=by
 refine ⟨hl,fun j c hj=>?_⟩;have hj':vs[j]? = some c:=hj;obtain ⟨h1,h2,h3⟩:=h j c hj';obtain ⟨g1,v,g2,g3⟩:=h3 0 c (by rw [h1];rfl);refine ⟨g1,v,?_,g3⟩;rw [List.getElem?_take,List.getElem?_drop] at g2;simpa using g2
theorem AeM {v:Value}{e:AV}(he:e.cells = [e])(hv:v.cells.toList = [v])(h:CellsR w e v.cells.toList):VRel0 w (fun b=>b<w.heap.size) e v:=by
 obtain ⟨_,u,h1,_,h2⟩:=h.2 0 e (by rw [he];rfl);rw [hv] at h1;simp at h1;subst h1;exact h2
theorem Afj {cs:Array Value}{vs:List AV}(h:CellsR w (.agg vs) cs.toList):VRel0 w (fun b=>b<w.heap.size) (.agg vs) (.agg cs):=by
 obtain ⟨h1,h2⟩:=h;refine .agg vs cs (by simpa [AV.cells] using h1) (fun j c v hj hv=>?_) (fun j c v hj hv=>?_)
 ·obtain ⟨g1,u,g2,g3,g4⟩:=h2 j c hj;rw [Array.getElem?_toList,hv] at g2;cases g2;exact ⟨g1,g3⟩
 ·obtain ⟨g1,u,g2,g3,g4⟩:=h2 j c hj;rw [Array.getElem?_toList,hv] at g2;cases g2;exact g4
end
end Go.Mw
