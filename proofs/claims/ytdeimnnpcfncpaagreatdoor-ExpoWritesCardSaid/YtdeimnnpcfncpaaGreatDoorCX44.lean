/- Parts of the proof: T6 T0 RJ RJB RT T7 T9a. -/
import Derived.Maps.OwnSet
import Derived.Maps.RangeWalk
import Derived.Maps.Views
import Derived.Maps.AppendAt
import Derived.Sort.KeysCollected
import Derived.Sort.OwnSorted
import Derived.ArgAppend
import Derived.Test.YtdeimnnpcfncpaaGreatDoorCX43
set_option linter.unusedVariables false
set_option linter.unusedSimpArgs false
set_option maxRecDepth 100000
set_option maxHeartbeats 64000000
section
namespace Go.Proofs.YtdeimnnpcfncpaaGreatDoor.X
open Go Go.RowKit
theorem qmn {w W W':World} {v v2 lv:Value} {ps:List SV} {s:Smp} (h2:W.ownsRow w.heap.size 34 4 v ps.length (qaO ps)) (h3: ∀p∈ps,W.ownsRow w.heap.size 44 2 p.2 p.1.ls.length (qaa p.1.ls)) (ho:W.ownsRow w.heap.size 44 2 lv s.ls.length (qaa s.ls))
 (hown:W'.ownsRow w.heap.size 34 4 v2 (ps.length+1) (qaO ps++qqm (s,lv))) (hk: ∀row,v.ownBlock≠some row→row<W.heap.size→W'.heap[row]?=W.heap[row]?):
 W'.ownsRow w.heap.size 34 4 v2 (ps++[(s,lv)]).length (qaO (ps++[(s,lv)]))∧ ∀p∈ps++[(s,lv)],W'.ownsRow w.heap.size 44 2 p.2 p.1.ls.length (qaa p.1.ls):=by
 refine⟨?_,fun p hp=>?_⟩
 ·rw[List.length_append,qe8];simpa [qaO] using hown
 ·rcases List.mem_append.1 hp with hp|hp
  ·exact qaw (h3 p hp) h2 (by decide) hk
  ·rw[List.mem_singleton] at hp;subst hp;exact qaw ho h2 (by decide) hk
def qeM (n:List UInt8):List Lb→Nat→Int
 | [],_=> -1
 |y::t,i=>if y.1=n then (i:Int) else qeM n t (i+1)
theorem qdj (a b:List UInt8):ltB a b=true↔a<b:=qjy a b
end Go.Proofs.YtdeimnnpcfncpaaGreatDoor.X
end
section
namespace Go.Proofs.YtdeimnnpcfncpaaGreatDoor
open Go Go.RowKit Go.Shelf
section
variable {P:Program} {ops:Array Oper} {Q:Exit→Act→World→Prop} {a:Act} {w:World} {K:Act→World→Prop} {i:Nat} {o:Oper}
def waits (l:List Oper) (j:Nat):List Nat:=match l[j]? with|some o=>(o.after.toList.filter (fun e=>Region.binds .any e)).map (·.on)|none=>[]
def reach (l:List Oper):Nat→Nat→List Nat
 |0,_=>[]
 |f+1,j=>waits l j++(waits l j).flatMap (reach l f)
theorem qaU {l:List Oper} {listed:Nat→Bool} (hcl: ∀i,listed i=true→ ∀k,(waits l i).contains k=true→listed k=true): ∀f i,listed i=true→ ∀k,(reach l f i).contains k=true→listed k=true:=by
 intro f
 induction f with
 |zero=>intro i _ k h;simp[reach] at h
 |succ f ih=>
  intro i hi k h;rw[List.contains_iff_mem,reach,List.mem_append,List.mem_flatMap] at h;rcases h with h|⟨j,hj,h⟩
  ·exact hcl i hi k (List.contains_iff_mem.2 h)
  ·exact ih j (hcl i hi j (List.contains_iff_mem.2 hj)) k (List.contains_iff_mem.2 h)
theorem qei {id:Nat} {l:List Oper} {a0:Act} {w0:World} (needs:Nat→List Nat) (fin:List Nat) (F:Nat→Value→World→Prop) (R:Nat→World→World→Prop)
 (hm:P.follows .mixedOrders=true)
 (hlow:(List.range l.length).all (fun i=>((l[i]?).map fun o=>o.after.all fun e=>!(Region.binds .any e)||decide (e.on<i)).getD true)=true)
 (hdist:(l.map (·.dst)).Pairwise (· ≠ ·))
 (hdst:l.all (fun o=>(o.dst.map fun d=>decide (d<a0.tmps.size)).getD false)=true)
 (hneeds:(List.range l.length).all (fun j=>(needs j).all fun i=>(waits l j).contains i)=true)
 (hR: ∀j w w',Below w0.heap.size w0 w→R j w w'→Below w0.heap.size w0 w')
 (hkeep: ∀i j v w w',i<l.length→j<l.length→i≠j→(reach l l.length i).contains j=false→(i∈fin∨ ∃j',i∈needs j'∧j'≠j∧(reach l l.length j).contains j'=false)→Below w0.heap.size w0 w→F i v w→R j w w'→F i v w')
 (hstep: ∀j o,l[j]?=some o→ ∀a w,Below w0.heap.size w0 w→(∀t,(∀o∈l,o.dst≠some t)→a.tmps.getD t undef=a0.tmps.getD t undef)→
   (∀i∈needs j,∀o',l[i]?=some o'→F i (qaB a o') w)→
   wpOp P l.toArray Q j (fun a' w'=> ∃v,a'=a.put o.dst v∧R j w w'∧F j v w') a w)
 (hend: ∀a w,Below w0.heap.size w0 w→(∀i∈fin,∀o,l[i]?=some o→F i (qaB a o) w)→a=l.foldl (qaq a) a0→Q .normal a w):
 (Code.region id l.toArray true).wp P Q a0 w0:=by
 refine wp_region_any hm ?_
 have hlow': ∀(i:Nat) (o:Oper),l.toArray[i]?=some o→ ∀e∈o.after,Region.binds .any e=true→e.on<i:=by
  intro i o ho e he hb
  have hi:i<l.length:=by
   rcases Nat.lt_or_ge i l.length with h|h
   ·exact h
   ·simp[List.getElem?_eq_none h] at ho
  have:=List.all_eq_true.1 hlow i (List.mem_range.2 hi);simp at ho;rw[ho] at this;simp at this;obtain⟨k,hk,rfl⟩:=Array.mem_iff_getElem.1 he;have h2:=this k hk;rw[hb] at h2;simpa using h2
 have hwait: ∀(j:Nat) (o:Oper),l[j]?=some o→ ∀i,(waits l j).contains i=true↔ ∃e∈o.after,Region.binds .any e=true∧e.on=i:=by
  intro j o ho i;unfold waits;rw[ho];simp only[List.contains_iff_mem,List.mem_map,List.mem_filter];constructor
  ·rintro⟨e,⟨h1,h2⟩,h3⟩;exact⟨e,Array.mem_toList_iff.1 h1,h2,h3⟩
  ·rintro⟨e,h1,h2,h3⟩;exact⟨e,⟨Array.mem_toList_iff.2 h1,h2⟩,h3⟩
 have hdd: ∀(i j:Nat) oi oj t,l[i]?=some oi→l[j]?=some oj→oi.dst=some t→oj.dst=some t→i=j:=by
  intro i j oi oj t hi hj e1 e2;obtain⟨hi1,hi2⟩:=List.getElem?_eq_some_iff.1 hi;obtain⟨hj1,hj2⟩:=List.getElem?_eq_some_iff.1 hj;rw[List.pairwise_iff_getElem] at hdist;rcases Nat.lt_trichotomy i j with h|h|h
  ·exact absurd (by rw[List.getElem_map,List.getElem_map,hi2,hj2,e1,e2]) (hdist i j (by simpa) (by simpa) h)
  ·exact h
  ·exact absurd (by rw[List.getElem_map,List.getElem_map,hi2,hj2,e1,e2]) (hdist j i (by simpa) (by simpa) h)
 refine qd2 (I:=fun listed a w=>listed.size=l.length∧a.tmps.size=a0.tmps.size∧a.defers=a0.defers∧Below w0.heap.size w0 w∧(∀t,(∀o∈l,o.dst≠some t)→a.tmps[t]?=a0.tmps[t]?)∧
  (∀i,listed.getD i false=true→ ∀k,(waits l i).contains k=true→listed.getD k false=true)∧
  (∀i o,l[i]?=some o→listed.getD i false=true→(i∈fin∨ ∃j',i∈needs j'∧listed.getD j' false=false)→F i (qaB a o) w)) ?_ ?_ _ _ _ _ ?_ ?_
 ·rintro listed a w j ⟨h1,h2,h3,h4,h5,hcl,h6⟩ hj;obtain⟨hu,o,ho,haft⟩:=mem_ready.1 hj;have ho':l[j]?=some o:=by simpa using ho
  have hu':listed.getD j false=false:=by
   rw[Array.getD_eq_getD_getElem?] at hu⊢
   cases hc:listed[j]? with
   |none=>rfl
   |some b=>rw[hc] at hu;exact hu
  have hjl:j<l.length:=(List.getElem?_eq_some_iff.1 ho').1
  have hw: ∀k,(waits l j).contains k=true→listed.getD k false=true:=by
   intro k hk;obtain⟨e,he,hb,rfl⟩:=(hwait j o ho' k).1 hk;exact haft e he hb
  have hnd: ∀i∈needs j,(waits l j).contains i=true:=fun i hi=>by
   have:=List.all_eq_true.1 hneeds j (List.mem_range.2 hjl);exact List.all_eq_true.1 this i hi
  refine wpOp_mono ?_ (hstep j o ho' a w h4 (fun t ht=>by simp[h5 t ht]) (fun i hi o' hoe=>h6 i o' hoe (hw i (hnd i hi)) (.inr ⟨j,hi,hu'⟩)));rintro a' w' ⟨v,rfl,hRj,hF⟩;have hom:o∈l:=List.mem_of_getElem? ho';have hd:=List.all_eq_true.1 hdst o hom
  obtain⟨d,hod,hdlt⟩: ∃d,o.dst=some d∧d<a0.tmps.size:=by
   cases hx:o.dst with
   |none=>simp[hx] at hd
   |some d=>simp[hx] at hd;exact⟨d,rfl,hd⟩
  have hget: ∀i,i≠j→(listed.setIfInBounds j true).getD i false=listed.getD i false:=fun i hij=>getD_set_ne false (fun e=>hij e.symm)
  refine⟨by simp[h1],by rw[hod];simp[Act.put,h2],by rw[hod];simp[Act.put,h3],hR j w w' h4 hRj,fun t ht=>?_,?_,?_⟩
  ·have hne:d≠t:=fun e=>ht o hom (by rw[hod,e])
   rw[hod];simp only[Act.put];rw[Array.getElem?_setIfInBounds_ne hne];exact h5 t ht
  ·intro i hl k hk
   by_cases hkj:k=j
   ·subst hkj;have:k<listed.size:=by omega
    simp[this]
   ·rw[hget k hkj]
    by_cases hij:i=j
    ·subst hij;exact hw k hk
    ·rw[hget i hij] at hl;exact hcl i hl k hk
  ·intro i oi hi hl hwant
   by_cases hij:i=j
   ·subst hij;obtain rfl:o=oi:=Option.some.inj (ho'.symm.trans hi);have:qaB (a.put o.dst v) o=v:=by simp[qaB,hod,Act.put,h2,hdlt]
    rw[this];exact hF
   ·rw[hget i hij] at hl
    have hslot:qaB (a.put o.dst v) oi=qaB a oi:=by
     unfold qaB
     cases hoj:oi.dst with
     |none=>rfl
     |some t=>
      have hne:d≠t:=fun e=>hij (hdd i j oi o d hi ho' (by rw[hoj,e]) hod)
      rw[hod];simp[Act.put,Array.getElem?_setIfInBounds_ne hne]
    rw[hslot];have hil:i<l.length:=(List.getElem?_eq_some_iff.1 hi).1
    have hnw:(reach l l.length i).contains j=false:=by
     cases hc:(reach l l.length i).contains j with
     |false=>rfl
     |true=>have:=qaU (listed:=fun i=>listed.getD i false) hcl l.length i hl j hc;rw[hu'] at this;cases this
    rcases hwant with hw1|⟨j',hj1,hj2⟩
    ·exact hkeep i j _ w w' hil hjl hij hnw (.inl hw1) h4 (h6 i oi hi hl (.inl hw1)) hRj
    ·have hjj:j'≠j:=by
      intro e;subst e;have:j'<listed.size:=by omega
      simp[this] at hj2
     rw[hget j' hjj] at hj2
     have hnw2:(reach l l.length j).contains j'=false:=by
      cases hc:(reach l l.length j).contains j' with
      |false=>rfl
      |true=>
       exfalso;obtain⟨f,hf⟩: ∃f,l.length=f+1:=⟨l.length - 1,by omega⟩;rw[hf,List.contains_iff_mem,reach,List.mem_append,List.mem_flatMap] at hc;rcases hc with hc|⟨k,hk,hc⟩
       ·have:=hw j' (List.contains_iff_mem.2 hc);rw[hj2] at this;cases this
       ·have:=qaU (listed:=fun i=>listed.getD i false) hcl f k (hw k (List.contains_iff_mem.2 hk)) j' (List.contains_iff_mem.2 hc);rw[hj2] at this;cases this
     exact hkeep i j _ w w' hil hjl hij hnw (.inr ⟨j',hj1,hjj,hnw2⟩) h4 (h6 i oi hi hl (.inr ⟨j',hj1,hj2⟩)) hRj
 ·rintro listed a w ⟨h1,h2,h3,h4,h5,_,h6⟩ hr;have hal:=qd1 hlow' listed (by simpa using h1) hr;refine hend a w h4 (fun i hi o ho=>h6 i o ho (hal i ?_) (.inl hi)) (qhB a a0 l h2 h3 h5);have:=(List.getElem?_eq_some_iff.1 ho).1;simpa using this
 ·rw[show l.toArray.size=l.length by simp,Array.toList_replicate,qaZ];exact Nat.le_trans (List.length_filter_le _ _) (by simp)
 ·refine⟨by simp,rfl,rfl,(Below.refl _ _).trans ⟨rfl,rfl,rfl,Nat.le_refl _,fun _ _=>rfl⟩,fun _ _=>rfl,fun i hl=>?_,fun i o ho hl=>?_⟩
  ·exfalso;rw[Array.getD_eq_getD_getElem?,Array.getElem?_replicate] at hl
   split at hl<;>cases hl
  ·have:=(List.getElem?_eq_some_iff.1 ho).1;simp[this] at hl
def clash (l:List Oper) (needs:Nat→List Nat) (fin:List Nat) (i j:Nat):Bool:=
 i !=j&&!((reach l l.length i).contains j)&&(fin.contains i||(List.range l.length).any fun j'=>(needs j').contains i&&j' !=j&&!((reach l l.length j).contains j'))
theorem qeJ {id:Nat} {l:List Oper} {a0:Act} {w0:World} (needs:Nat→List Nat) (fin fr wr:List Nat) (F:Nat→Value→World→Prop)
 (hm:P.follows .mixedOrders=true)
 (hlow:(List.range l.length).all (fun i=>((l[i]?).map fun o=>o.after.all fun e=>!(Region.binds .any e)||decide (e.on<i)).getD true)=true)
 (hdist:(l.map (·.dst)).Pairwise (· ≠ ·))
 (hdst:l.all (fun o=>(o.dst.map fun d=>decide (d<a0.tmps.size)).getD false)=true)
 (hneeds:(List.range l.length).all (fun j=>(needs j).all fun i=>(waits l j).contains i)=true)
 (hlast: ∀j,l.length≤j→needs j=[])
 (hclash:(wr.all fun j=>fr.all fun i=>!(clash l needs fin i j))=true)
 (hk1: ∀i v w w',F i v w→Below w.heap.size w w'→F i v w')
 (hk2: ∀i v w w',fr.contains i=false→Below w0.heap.size w0 w→F i v w→Below w0.heap.size w w'→F i v w')
 (hstep: ∀j o,l[j]?=some o→ ∀a w,Below w0.heap.size w0 w→(∀t,(∀o∈l,o.dst≠some t)→a.tmps.getD t undef=a0.tmps.getD t undef)→
   (∀i∈needs j,∀o',l[i]?=some o'→F i (qaB a o') w)→
   wpOp P l.toArray Q j (fun a' w'=> ∃v,a'=a.put o.dst v∧(if wr.contains j then Below w0.heap.size w w' else Below w.heap.size w w')∧F j v w') a w)
 (hend: ∀a w,Below w0.heap.size w0 w→(∀i∈fin,∀o,l[i]?=some o→F i (qaB a o) w)→a=l.foldl (qaq a) a0→Q .normal a w):
 (Code.region id l.toArray true).wp P Q a0 w0:=by
 refine qei needs fin F (fun j w w'=>if wr.contains j then Below w0.heap.size w w' else Below w.heap.size w w') hm hlow hdist hdst hneeds ?_ ?_ hstep hend
 ·intro j w w' h h2
  split at h2
  ·exact h.trans h2
  ·exact h.trans (h2.mono h.size)
 ·intro i j v w w' _ _ hij h1 h2 hb0 hF hR
  split at hR
  ·rename_i hwj
   cases hfi:fr.contains i with
   |true=>
    exfalso;have hc:=List.all_eq_true.1 (List.all_eq_true.1 hclash j (List.contains_iff_mem.1 hwj)) i (List.contains_iff_mem.1 hfi)
    have:clash l needs fin i j=true:=by
     unfold clash;rw[h1,show(i !=j)=true by simpa using hij];simp only[Bool.not_false,Bool.and_true,Bool.true_and,Bool.or_eq_true,List.any_eq_true];rcases h2 with h2|⟨j',e1,e2,e3⟩
     ·exact .inl (List.contains_iff_mem.2 h2)
     ·refine .inr ⟨j',?_,?_⟩
      ·rcases Nat.lt_or_ge j' l.length with h|h
       ·exact List.mem_range.2 h
       ·rw[hlast j' h] at e1;cases e1
      ·rw[List.contains_iff_mem.2 e1,e3,show(j' !=j)=true by simpa using e2];rfl
    rw[this] at hc;cases hc
   |false=>exact hk2 i v w w' hfi hb0 hF hR
  ·exact hk1 i v w w' hF hR
theorem qff (ho:ops[i]?=some o) (hm:Met ops a o) (h:Oper.wp P o a w K Q):wpOp P ops Q i K a w:=by
 unfold Met at hm;unfold wpOp;simp only[ho,hm,if_true];exact .inl h
end
section
variable {P:Program} {ops:Array Oper} {Q:Exit→Act→World→Prop} {a:Act} {w:World} {K:Act→World→Prop} {i:Nat} {o:Oper}
def ahead (l:List Oper) (t j:Nat):Bool:=(List.range l.length).all fun i=>match l[i]? with|some o=>o.dst !=some t||(reach l l.length i).contains j|none=>true
theorem qmr {l:List Oper} {t j i:Nat} {o:Oper} (h:ahead l t j=true) (hi:l[i]?=some o) (hd:o.dst=some t):(reach l l.length i).contains j=true:=by
 have hl:i<l.length:=(List.getElem?_eq_some_iff.1 hi).1;have:=List.all_eq_true.1 h i (List.mem_range.2 hl);rw[hi] at this;have h2:(o.dst !=some t||(reach l l.length i).contains j)=true:=this;rw[hd] at h2;simpa using h2
theorem qdB {id:Nat} {l:List Oper} {a0:Act} {w0:World} (Bs:Nat) (wr:List Nat) (needs:Nat→List Nat) (fin:List Nat) (F:Nat→Value→World→Prop) (R:Nat→World→World→Prop)
 (hm:P.follows .mixedOrders=true)
 (hlow:(List.range l.length).all (fun i=>((l[i]?).map fun o=>o.after.all fun e=>!(Region.binds .any e)||decide (e.on<i)).getD true)=true)
 (hdist:(l.map (·.dst)).Pairwise (· ≠ ·))
 (hdst:l.all (fun o=>(o.dst.map fun d=>decide (d<a0.tmps.size)).getD false)=true)
 (hneeds:(List.range l.length).all (fun j=>(needs j).all fun i=>(waits l j).contains i)=true)
 (hR: ∀j w w',Below Bs w0 w→R j w w'→Below Bs w0 w')
 (hR2: ∀j w w',wr.contains j=false→R j w w'→Below w.heap.size w w')
 (hkeep: ∀i j v w w',i<l.length→j<l.length→i≠j→(reach l l.length i).contains j=false→(i∈fin∨ ∃j',i∈needs j'∧j'≠j∧(reach l l.length j).contains j'=false)→Below Bs w0 w→F i v w→R j w w'→F i v w')
 (hstep: ∀j o,l[j]?=some o→ ∀a w,Below Bs w0 w→(∀t,ahead l t j=true→a.tmps.getD t undef=a0.tmps.getD t undef)→((wr.all fun i=>(reach l l.length i).contains j)=true→Below w0.heap.size w0 w)→
   (∀i∈needs j,∀o',l[i]?=some o'→F i (qaB a o') w)→
   wpOp P l.toArray Q j (fun a' w'=> ∃v,a'=a.put o.dst v∧R j w w'∧F j v w') a w)
 (hend: ∀a w,Below Bs w0 w→(∀i∈fin,∀o,l[i]?=some o→F i (qaB a o) w)→a=l.foldl (qaq a) a0→Q .normal a w):
 (Code.region id l.toArray true).wp P Q a0 w0:=by
 refine wp_region_any hm ?_
 have hlow': ∀(i:Nat) (o:Oper),l.toArray[i]?=some o→ ∀e∈o.after,Region.binds .any e=true→e.on<i:=by
  intro i o ho e he hb
  have hi:i<l.length:=by
   rcases Nat.lt_or_ge i l.length with h|h
   ·exact h
   ·simp[List.getElem?_eq_none h] at ho
  have:=List.all_eq_true.1 hlow i (List.mem_range.2 hi);simp at ho;rw[ho] at this;simp at this;obtain⟨k,hk,rfl⟩:=Array.mem_iff_getElem.1 he;have h2:=this k hk;rw[hb] at h2;simpa using h2
 have hwait: ∀(j:Nat) (o:Oper),l[j]?=some o→ ∀i,(waits l j).contains i=true↔ ∃e∈o.after,Region.binds .any e=true∧e.on=i:=by
  intro j o ho i;unfold waits;rw[ho];simp only[List.contains_iff_mem,List.mem_map,List.mem_filter];constructor
  ·rintro⟨e,⟨h1,h2⟩,h3⟩;exact⟨e,Array.mem_toList_iff.1 h1,h2,h3⟩
  ·rintro⟨e,h1,h2,h3⟩;exact⟨e,⟨Array.mem_toList_iff.2 h1,h2⟩,h3⟩
 have hdd: ∀(i j:Nat) oi oj t,l[i]?=some oi→l[j]?=some oj→oi.dst=some t→oj.dst=some t→i=j:=by
  intro i j oi oj t hi hj e1 e2;obtain⟨hi1,hi2⟩:=List.getElem?_eq_some_iff.1 hi;obtain⟨hj1,hj2⟩:=List.getElem?_eq_some_iff.1 hj;rw[List.pairwise_iff_getElem] at hdist;rcases Nat.lt_trichotomy i j with h|h|h
  ·exact absurd (by rw[List.getElem_map,List.getElem_map,hi2,hj2,e1,e2]) (hdist i j (by simpa) (by simpa) h)
  ·exact h
  ·exact absurd (by rw[List.getElem_map,List.getElem_map,hi2,hj2,e1,e2]) (hdist j i (by simpa) (by simpa) h)
 refine qd2 (I:=fun listed a w=>listed.size=l.length∧a.tmps.size=a0.tmps.size∧a.defers=a0.defers∧Below Bs w0 w∧((∀i∈wr,listed.getD i false=false)→Below w0.heap.size w0 w)∧(∀t,(∀(i:Nat) o,l[i]?=some o→o.dst=some t→listed.getD i false=false)→a.tmps[t]?=a0.tmps[t]?)∧
  (∀i,listed.getD i false=true→ ∀k,(waits l i).contains k=true→listed.getD k false=true)∧
  (∀i o,l[i]?=some o→listed.getD i false=true→(i∈fin∨ ∃j',i∈needs j'∧listed.getD j' false=false)→F i (qaB a o) w)) ?_ ?_ _ _ _ _ ?_ ?_
 ·rintro listed a w j ⟨h1,h2,h3,h4,h4s,h5,hcl,h6⟩ hj;obtain⟨hu,o,ho,haft⟩:=mem_ready.1 hj;have ho':l[j]?=some o:=by simpa using ho
  have hu':listed.getD j false=false:=by
   rw[Array.getD_eq_getD_getElem?] at hu⊢
   cases hc:listed[j]? with
   |none=>rfl
   |some b=>rw[hc] at hu;exact hu
  have hjl:j<l.length:=(List.getElem?_eq_some_iff.1 ho').1
  have hw: ∀k,(waits l j).contains k=true→listed.getD k false=true:=by
   intro k hk;obtain⟨e,he,hb,rfl⟩:=(hwait j o ho' k).1 hk;exact haft e he hb
  have hnd: ∀i∈needs j,(waits l j).contains i=true:=fun i hi=>by
   have:=List.all_eq_true.1 hneeds j (List.mem_range.2 hjl);exact List.all_eq_true.1 this i hi
  refine wpOp_mono ?_ (hstep j o ho' a w h4 (fun t ht=>by simp[h5 t (fun i oi hi hd=>by
   cases hl:listed.getD i false with
   |false=>rfl
   |true=>
    have:=qaU (listed:=fun i=>listed.getD i false) hcl l.length i hl j (qmr ht hi hd)
    rw[hu'] at this;cases this)]) (fun hso=>h4s (fun i hi=>by
   cases hl:listed.getD i false with
   |false=>rfl
   |true=>
    have:=qaU (listed:=fun i=>listed.getD i false) hcl l.length i hl j (List.all_eq_true.1 hso i hi)
    rw[hu'] at this;cases this)) (fun i hi o' hoe=>h6 i o' hoe (hw i (hnd i hi)) (.inr ⟨j,hi,hu'⟩)))
  rintro a' w' ⟨v,rfl,hRj,hF⟩;have hom:o∈l:=List.mem_of_getElem? ho';have hd:=List.all_eq_true.1 hdst o hom
  obtain⟨d,hod,hdlt⟩: ∃d,o.dst=some d∧d<a0.tmps.size:=by
   cases hx:o.dst with
   |none=>simp[hx] at hd
   |some d=>simp[hx] at hd;exact⟨d,rfl,hd⟩
  have hget: ∀i,i≠j→(listed.setIfInBounds j true).getD i false=listed.getD i false:=fun i hij=>getD_set_ne false (fun e=>hij e.symm)
  refine⟨by simp[h1],by rw[hod];simp[Act.put,h2],by rw[hod];simp[Act.put,h3],hR j w w' h4 hRj,fun hso=>?_,fun t ht=>?_,?_,?_⟩
  ·have hjs:j<listed.size:=by omega
   have hjw:wr.contains j=false:=by
    cases hc:wr.contains j with
    |false=>rfl
    |true=>
     have:=hso j (List.contains_iff_mem.1 hc);simp[hjs] at this
   have h8:=h4s (fun i hi=>by
    have:=hso i hi
    by_cases hij:i=j
    ·subst hij;exact hu'
    ·rwa[hget i hij] at this)
   exact h8.trans ((hR2 j w w' hjw hRj).mono h8.size)
  ·have hjs:j<listed.size:=by omega
   have hne:d≠t:=fun e=>by
    have:=ht j o ho' (by rw[hod,e]);simp[hjs] at this
   rw[hod];simp only[Act.put];rw[Array.getElem?_setIfInBounds_ne hne];refine h5 t (fun i oi hi hd'=>?_);have h:=ht i oi hi hd'
   by_cases hij:i=j
   ·subst hij;simp[hjs] at h
   ·rwa[hget i hij] at h
  ·intro i hl k hk
   by_cases hkj:k=j
   ·subst hkj;have:k<listed.size:=by omega
    simp[this]
   ·rw[hget k hkj]
    by_cases hij:i=j
    ·subst hij;exact hw k hk
    ·rw[hget i hij] at hl;exact hcl i hl k hk
  ·intro i oi hi hl hwant
   by_cases hij:i=j
   ·subst hij;obtain rfl:o=oi:=Option.some.inj (ho'.symm.trans hi);have:qaB (a.put o.dst v) o=v:=by simp[qaB,hod,Act.put,h2,hdlt]
    rw[this];exact hF
   ·rw[hget i hij] at hl
    have hslot:qaB (a.put o.dst v) oi=qaB a oi:=by
     unfold qaB
     cases hoj:oi.dst with
     |none=>rfl
     |some t=>
      have hne:d≠t:=fun e=>hij (hdd i j oi o d hi ho' (by rw[hoj,e]) hod)
      rw[hod];simp[Act.put,Array.getElem?_setIfInBounds_ne hne]
    rw[hslot];have hil:i<l.length:=(List.getElem?_eq_some_iff.1 hi).1
    have hnw:(reach l l.length i).contains j=false:=by
     cases hc:(reach l l.length i).contains j with
     |false=>rfl
     |true=>have:=qaU (listed:=fun i=>listed.getD i false) hcl l.length i hl j hc;rw[hu'] at this;cases this
    rcases hwant with hw1|⟨j',hj1,hj2⟩
    ·exact hkeep i j _ w w' hil hjl hij hnw (.inl hw1) h4 (h6 i oi hi hl (.inl hw1)) hRj
    ·have hjj:j'≠j:=by
      intro e;subst e;have:j'<listed.size:=by omega
      simp[this] at hj2
     rw[hget j' hjj] at hj2
     have hnw2:(reach l l.length j).contains j'=false:=by
      cases hc:(reach l l.length j).contains j' with
      |false=>rfl
      |true=>
       exfalso;obtain⟨f,hf⟩: ∃f,l.length=f+1:=⟨l.length - 1,by omega⟩;rw[hf,List.contains_iff_mem,reach,List.mem_append,List.mem_flatMap] at hc;rcases hc with hc|⟨k,hk,hc⟩
       ·have:=hw j' (List.contains_iff_mem.2 hc);rw[hj2] at this;cases this
       ·have:=qaU (listed:=fun i=>listed.getD i false) hcl f k (hw k (List.contains_iff_mem.2 hk)) j' (List.contains_iff_mem.2 hc);rw[hj2] at this;cases this
     exact hkeep i j _ w w' hil hjl hij hnw (.inr ⟨j',hj1,hjj,hnw2⟩) h4 (h6 i oi hi hl (.inr ⟨j',hj1,hj2⟩)) hRj
 ·rintro listed a w ⟨h1,h2,h3,h4,_,h5,_,h6⟩ hr;have hal:=qd1 hlow' listed (by simpa using h1) hr;refine hend a w h4 (fun i hi o ho=>h6 i o ho (hal i ?_) (.inl hi)) (qhB a a0 l h2 h3 (fun t ht=>h5 t (fun i o hi hd=>absurd hd (ht o (List.mem_of_getElem? hi)))));have:=(List.getElem?_eq_some_iff.1 ho).1;simpa using this
 ·rw[show l.toArray.size=l.length by simp,Array.toList_replicate,qaZ];exact Nat.le_trans (List.length_filter_le _ _) (by simp)
 ·refine⟨by simp,rfl,rfl,(Below.refl _ _).trans ⟨rfl,rfl,rfl,Nat.le_refl _,fun _ _=>rfl⟩,fun _=>(Below.refl _ _).trans ⟨rfl,rfl,rfl,Nat.le_refl _,fun _ _=>rfl⟩,fun _ _=>rfl,fun i hl=>?_,fun i o ho hl=>?_⟩
  ·exfalso;rw[Array.getD_eq_getD_getElem?,Array.getElem?_replicate] at hl
   split at hl<;>cases hl
  ·have:=(List.getElem?_eq_some_iff.1 ho).1;simp[this] at hl
theorem qcb {id:Nat} {l:List Oper} {a0:Act} {w0:World} (Bs:Nat) (hBs:Bs≤w0.heap.size) (needs:Nat→List Nat) (fin fr wr:List Nat) (F:Nat→Value→World→Prop)
 (hm:P.follows .mixedOrders=true)
 (hlow:(List.range l.length).all (fun i=>((l[i]?).map fun o=>o.after.all fun e=>!(Region.binds .any e)||decide (e.on<i)).getD true)=true)
 (hdist:(l.map (·.dst)).Pairwise (· ≠ ·))
 (hdst:l.all (fun o=>(o.dst.map fun d=>decide (d<a0.tmps.size)).getD false)=true)
 (hneeds:(List.range l.length).all (fun j=>(needs j).all fun i=>(waits l j).contains i)=true)
 (hlast: ∀j,l.length≤j→needs j=[])
 (hclash:(wr.all fun j=>fr.all fun i=>!(clash l needs fin i j))=true)
 (hk1: ∀i v w w',F i v w→Below w.heap.size w w'→F i v w')
 (hk2: ∀i v w w',fr.contains i=false→Below Bs w0 w→F i v w→Below Bs w w'→F i v w')
 (hstep: ∀j o,l[j]?=some o→ ∀a w,Below Bs w0 w→(∀t,ahead l t j=true→a.tmps.getD t undef=a0.tmps.getD t undef)→((wr.all fun i=>(reach l l.length i).contains j)=true→Below w0.heap.size w0 w)→
   (∀i∈needs j,∀o',l[i]?=some o'→F i (qaB a o') w)→
   wpOp P l.toArray Q j (fun a' w'=> ∃v,a'=a.put o.dst v∧(if wr.contains j then Below Bs w w' else Below w.heap.size w w')∧F j v w') a w)
 (hend: ∀a w,Below Bs w0 w→(∀i∈fin,∀o,l[i]?=some o→F i (qaB a o) w)→a=l.foldl (qaq a) a0→Q .normal a w):
 (Code.region id l.toArray true).wp P Q a0 w0:=by
 refine qdB Bs wr needs fin F (fun j w w'=>if wr.contains j then Below Bs w w' else Below w.heap.size w w') hm hlow hdist hdst hneeds ?_ (fun j w w' hj h=>by rw[if_neg (by rw[hj];decide)] at h;exact h) ?_ hstep hend
 ·intro j w w' h h2
  split at h2
  ·exact h.trans h2
  ·exact h.trans (h2.mono (Nat.le_trans hBs h.size))
 ·intro i j v w w' _ _ hij h1 h2 hb0 hF hR
  split at hR
  ·rename_i hwj
   cases hfi:fr.contains i with
   |true=>
    exfalso;have hc:=List.all_eq_true.1 (List.all_eq_true.1 hclash j (List.contains_iff_mem.1 hwj)) i (List.contains_iff_mem.1 hfi)
    have:clash l needs fin i j=true:=by
     unfold clash;rw[h1,show(i !=j)=true by simpa using hij];simp only[Bool.not_false,Bool.and_true,Bool.true_and,Bool.or_eq_true,List.any_eq_true];rcases h2 with h2|⟨j',e1,e2,e3⟩
     ·exact .inl (List.contains_iff_mem.2 h2)
     ·refine .inr ⟨j',?_,?_⟩
      ·rcases Nat.lt_or_ge j' l.length with h|h
       ·exact List.mem_range.2 h
       ·rw[hlast j' h] at e1;cases e1
      ·rw[List.contains_iff_mem.2 e1,e3,show(j' !=j)=true by simpa using e2];rfl
    rw[this] at hc;cases hc
   |false=>exact hk2 i v w w' hfi hb0 hF hR
  ·exact hk1 i v w w' hF hR
end
theorem qaF.pushes {B e g cap:Nat}: ∀(us:List Value) (n:Nat) (xs:List Value) (w:World),qaF w B e g n cap xs→n+us.length≤cap→
 qaF (w.setCells g n us) B e g (n+us.length) cap (xs++us)∧Below B w (w.setCells g n us)∧ ∀row,row≠g→(w.setCells g n us).heap[row]?=w.heap[row]?
 | [],n,xs,w,h,_=>⟨by rw[List.append_nil];exact h,Below.refl _ _,fun _ _=>rfl⟩
 |u::r,n,xs,w,h,hc=>by
  have hc':n+(r.length+1)≤cap:=by simpa using hc
  have h1:=h.push (by omega) u;obtain⟨a1,a2,a3⟩:=qaF.pushes r (n+1) (xs++[u]) _ h1 (by omega);refine⟨?_,((Below.refl B w).setCell h.low u).trans a2,fun row hr=>(a3 row hr).trans (Below.heap_setCell w ⟨g,n,none⟩ u row hr)⟩;rw[List.append_assoc] at a1;rw[show n+(u::r).length=n+1+r.length by simp;omega];exact a1
theorem qiv {P:Program} (w:World) (base:Nat) (t u ty e:TypeId) (i:TypeInfo) (ht:P.underlying t=some (.slice e)) (hu:P.underlying u=some .string) (hi:P.info? e=some i) (hz:i.zero=some (.int .u8 0)) (hsize:i.size=1) (hby:i.bytes=1)
 (g n cap:Nat) (xs:List Value) (h:qaF w base e g n cap xs) (s:ByteArray) (hbytes:n+s.size≤140737488355328) (hbase:base≤w.heap.size):
 ∃g' cap' w',(Builtin.append_ #[t,u] ty #[.slice (some ⟨g,0,none⟩) n cap,.string s]).run P w= .ok (.slice (some ⟨g',0,none⟩) (n+s.size) cap') w'∧qaF w' base e g' (n+s.size) cap' (xs++Lib.strCells s)∧Below base w w'∧ ∀row,row≠g→row<w.heap.size→w'.heap[row]?=w.heap[row]?:=by
 have hsl:=Lib.strCells_length s
 by_cases hroom:n+s.size≤cap
 ·obtain⟨a1,a2,a3⟩:=qaF.pushes (Lib.strCells s) n xs w h (by omega);rw[hsl] at a1;refine⟨g,cap,w.setCells g n (Lib.strCells s),?_,a1,a2,fun row hr _=>a3 row hr⟩
  have hc: ∀j,j<(Lib.strCells s).length→(w.cell? ⟨g,n+j,none⟩).isSome=true:=fun j hj=>by
   obtain⟨cur,fz,h2,_,h3,_⟩:=h.obj;unfold World.cell?;simp only[h2];simp;omega
  have hf: ∀j,j<(Lib.strCells s).length→w.frozen? ⟨g,n+j,none⟩=false:=fun j hj=>h.frozen _ (by omega)
  have hst:=run_storeCells_cells (P:=P) g n (Lib.strCells s) 0 w (by simpa using hc) (by simpa using hf) (Lib.strCells_oneCell s);simp only[Nat.add_zero] at hst;have hfc:=Lib.run_firstCells_string (P:=P) w 1 s;simp[Builtin.append_,run_underlying ht,run_underlying hu,sizeOf,typeInfo,hi,hsize,Builtin.lenOf,hroom,hfc,Addr.add_lit,hst]
 ·have holds: ∀j v,xs[j]?=some v→w.cell? ((⟨g,0,none⟩:Addr).add j)=some v:=by
   intro j v hj
   have hjl:j<n:=by
    rcases Nat.lt_or_ge j n with g'|g'
    ·exact g'
    ·rw[List.getElem?_eq_none (by rw[h.len];exact g')] at hj;cases hj
   rw[show(⟨g,0,none⟩:Addr).add j=⟨g,j,none⟩ by unfold Addr.add;split<;>simp_all,h.cell j hjl];exact hj
  have hr:=Lib.run_append_grow_string (P:=P) w t u ty e i _ ht hu hi hz ⟨g,0,none⟩ n cap xs (by rw[h.len,hsize,Nat.mul_one]) holds s (by omega) (by omega) (growslice_fits (by omega) (by rw[hby];omega));have hge:=grownCap_ge w (n+s.size) cap e;have hcm:grownCap w (n+s.size) cap e≤maxLen:=grownCap_le_maxLen w (n+s.size) cap e (by unfold maxLen;omega);refine⟨_,_,_,hr,⟨by rw[List.length_append,h.len,hsl],hbase,hge,hcm,_,(0,0),heap_alloc_new w.drew _,.inl rfl,?_,?_⟩,(Below.drew (Below.refl base w)).alloc hbase _,fun row _ hlt=>Below.heap_alloc w.drew _ row hlt⟩
  ·simp only[Array.size_append,List.size_toArray,size_zeroCells,h.len,hsl,show(Value.int IntKind.u8 0).cells.size=1 from rfl];omega
  ·simp only[Array.toList_append,List.append_assoc];rw[←List.append_assoc];have hl:(xs++Lib.strCells s).length=n+s.size:=by rw[List.length_append,h.len,hsl]
   conv=>lhs;rw[←hl]
   exact List.take_left
theorem qdG {P:Program} {ops:Array Oper} {rest:List Oper} {o:Oper} {a:Act} {Q:Exit→Act→World→Prop} {w:World} (hgd:o.guard=none) (sl x:Operand) (t u:TypeId)
 (ho:o.op= .call {callee:= .builtin .append,args:=#[sl,x],argTypes:=#[t,u]})
 {e:TypeId} (base:Nat) (ht:P.underlying t=some (.slice e)) (hu:P.underlying u=some .string) (hinfo:(P.info? e).map (fun i=>(i.zero,i.size,i.bytes))=some (some (.int .u8 0),1,1))
 (g n cap:Nat) (l:List UInt8) (hs:a.eval sl= .slice (some ⟨g,0,none⟩) n cap) (s:ByteArray) (hx:a.eval x= .string s) (hown:qaF w base e g n cap (l.map qax))
 (hbytes:n+s.size≤140737488355328) (hbase:base≤w.heap.size)
 (h: ∀g' cap' w',qaF w' base e g' (n+s.size) cap' ((l++s.data.toList).map qax)→Below base w w'→wpList P ops Q rest (a.put o.dst (.slice (some ⟨g',0,none⟩) (n+s.size) cap')) w'):
 wpList P ops Q (o::rest) a w:=by
 obtain⟨i,hi,hz0,hz1,hz2⟩:=info_parts hinfo;obtain⟨g',cap',w',hr,h1,h2,h3⟩:=qiv (P:=P) w base t u o.type e i ht hu hi hz0 hz1 hz2 g n cap _ hown s hbytes hbase;refine wpList_plain hgd fun _ hK=>?_
 unfold Oper.wp execOp;simp only[ho,resolve,invoke,builtin,Sem.run_bind,Sem.run_pure,Result.andThen_ok,List.map_toArray,List.map_cons,List.map_nil,hs,hx,hr];refine hK _ _ (h g' cap' w' ?_ h2);have hc:Lib.strCells s=s.data.toList.map qax:=rfl;rw[hc,←List.map_append] at h1;exact h1
section
variable {P:Program} {ops:Array Oper} {Q:Exit→Act→World→Prop} {a:Act} {w:World} {K:Act→World→Prop} {i:Nat} {o:Oper}
theorem qcZ {sl x:Operand} {t u e:TypeId} {base n g cap:Nat} (ho:ops[i]?=some o) (hg:o.guard=none) (hop:o.op= .call {callee:= .builtin .append,args:=#[sl,x],argTypes:=#[t,u]})
 (ht:P.underlying t=some (.slice e)) (hu:P.underlying u=some .string) (hinfo:(P.info? e).map (fun i=>(i.zero,i.size,i.bytes))=some (some (.int .u8 0),1,1))
 (l:List UInt8) (hs:a.eval sl= .slice (some ⟨g,0,none⟩) n cap) (hown:qaF w base e g n cap (l.map qax)) (s:ByteArray) (hx:a.eval x= .string s)
 (hbytes:n+s.size≤140737488355328) (hbase:base≤w.heap.size)
 (hk: ∀g' cap' w',qaF w' base e g' (n+s.size) cap' ((l++s.data.toList).map qax)→Below base w w'→K (a.put o.dst (.slice (some ⟨g',0,none⟩) (n+s.size) cap')) w'):wpOp P ops Q i K a w:=by
 obtain⟨inf,hi,hz0,hz1,hz2⟩:=info_parts hinfo;obtain⟨g',cap',w',hr,h2,h3,h4⟩:=qiv (P:=P) w base t u o.type e inf ht hu hi hz0 hz1 hz2 g n cap _ hown s hbytes hbase;refine qff ho (qae hg) ?_;unfold Oper.wp;simp[execOp,hop,resolve,invoke,builtin,hs,hx,hr,Result.andThen];have hc:Lib.strCells s=s.data.toList.map qax:=rfl;rw[hc,←List.map_append] at h2;exact hk _ _ w' h2 h3
theorem qc8 {x y:Operand} {t e:TypeId} {u z:Value} {base n g cap b c:Nat} (ho:ops[i]?=some o) (hg:o.guard=none) (hop:o.op= .call {callee:= .builtin .append,args:=#[x,y],argTypes:=#[t,t]})
 (ht:P.underlying t=some (.slice e)) (hinfo:(P.info? e).map (fun i=>(i.zero,i.size,i.bytes))=some (some z,1,1)) (hzs:z.cells.size=1)
 (xs:List Value) (hx:a.eval x= .slice (some ⟨g,0,none⟩) n cap) (hown:qaF w base e g n cap xs) (hy:a.eval y= .slice (some ⟨b,0,none⟩) 1 c) (hu:w.cell? ⟨b,0,none⟩=some u) (h1:u.oneCell'=true)
 (hbytes:n+1≤140737488355328) (hbase:base≤w.heap.size)
 (hk: ∀g' cap' w',qaF w' base e g' (n+1) cap' (xs++[u])→Below base w w'→K (a.put o.dst (.slice (some ⟨g',0,none⟩) (n+1) cap')) w'):wpOp P ops Q i K a w:=by
 obtain⟨inf,hi,hz0,hz1,hz2⟩:=info_parts hinfo;obtain⟨g',cap',w',hr,h2,h3,h4⟩:=qhN (P:=P) w base t o.type e inf z ht hi hz0 hz1 hz2 hzs g n cap xs hown ⟨b,0,none⟩ c u hu h1 hbytes hbase;refine qff ho (qae hg) ?_;unfold Oper.wp;simp[execOp,hop,resolve,invoke,builtin,hx,hy,hr,Result.andThen];exact hk _ _ w' h2 h3
end
theorem qaF.on {w w':World} {B e g n cap:Nat} {xs:List Value} (h:qaF w B e g n cap xs) (hb:Below w.heap.size w w'):qaF w' B e g n cap xs:=h.oth (hb.block g h.lt)
theorem qks {P:Program} {w:World} {base g n cap:Nat} {t e st:TypeId} {l:List UInt8} (ht:P.underlying t=some (.slice e)) (he:P.underlying e=some (.int .u8)) (hs:P.underlying st=some .string) (h:qaF w base e g n cap (l.map qax)):
 (convert t st (.slice (some ⟨g,0,none⟩) n cap)).run P w= .ok (.string ⟨l.toArray⟩) w:=by
 have hl:l.length=n:=by have:=h.len;simpa using this
 subst hl;refine run_convert_bytes_back w t st e ⟨g,0,none⟩ cap l ht he hs (fun j hj=>?_);rw[show(⟨g,0,none⟩:Addr).add j=⟨g,j,none⟩ by simp[Addr.add];omega,h.cell j hj];simp[qax,hj]
end Go.Proofs.YtdeimnnpcfncpaaGreatDoor
end
section
namespace Go.Proofs.YtdeimnnpcfncpaaGreatDoor.X
open Go Go.RowKit
theorem qsN {B b:Nat} {l:List UInt8} {w w':World} (h:L.BldK B b l w) (hb:Below w.heap.size w w'):L.BldK B b l w':=by
 have key: ∀{p:Value} {bs:List Value},Lib.BuilderAtF 80 5 B b p bs w→Lib.BuilderAtF 80 5 B b p bs w':=by
  rintro p bs ⟨hB,v,h1,hown,hne⟩;refine⟨hB,v,(hb.block b (Array.getElem?_eq_some_iff.1 h1).1).trans h1,⟨hown.1,?_⟩,hne⟩;rcases hown.2 with h2|⟨g,cap,cur,fz,hv,hbg,hg,rest⟩
  ·exact .inl h2
  ·exact .inr ⟨g,cap,cur,fz,hv,hbg,(hb.block g (Array.getElem?_eq_some_iff.1 hg).1).trans hg,rest⟩
 rcases h with h|h
 ·exact .inl (key h)
 ·exact .inr (key h)
theorem qpb (ss:List Smp) (i:Nat) (h:i<ss.length):ss.drop i=ss.getD i qaW::ss.drop (i+1):=by
 rw[List.drop_eq_getElem_cons h,List.getD_eq_getElem?_getD,List.getElem?_eq_getElem h];rfl
theorem qkL (s:Smp):(qcd s).2.length≤65536:=by
 unfold qcd
 split
 ·split
  ·simp
  ·simp only;omega
 ·simp
def SBt (s:Smp):Prop:=SBd s∧ -9223372036854775808≤s.t∧s.t≤9223372036854775807
def qkc (ss:List Smp) (w:World) (e:Ending) (w':World):Prop:=e= .returned (.tuple #[.string (BS (qdy ss).2.2),.int .i64 (qdy ss).2.1,.int .i64 (qdy ss).1])∧Below w.heap.size w w'
theorem qmR (v:Value) (ss:List Smp) (hl:ss.length≤1000000000) (hs: ∀s∈ss,SBt s) (w:World) (hG:EGlb w) (hv:SLRow w v ss):Calls Tryz.prog 20 #[v] w (qkc ss w):=by
 have GG:=Lh (fun W (hb:Below w.heap.size w W)=>hG.on hb);obtain⟨a,c,rfl⟩:=hv.shape;have HV:=Lh hv;have HS:=Lh hs;obtain⟨n,hn⟩: ∃n,n=ss.length:=⟨_,rfl⟩;have hnh:=Lh hn;obtain⟨R,hR⟩: ∃R,Hid (R=qaR 0 [] ss):=⟨_,Lh rfl⟩;have hW:Hid (qdy ss=if R.1=0 then (if 1000<n then (5,-1,[]) else if 65536<R.2.2.length then (3,-1,[]) else (0,-1,R.2.2)) else (R.1,R.2.1,[])):=Lh (by rw[hR.out,hn];rfl);have B0:=L.bld_new w w.heap.size (Nat.le_refl _);have Ba:Below w.heap.size w (w.alloc (.cells #[.pointer none,.slice none 0 0] 80)):=(Below.refl _ _).alloc (Nat.le_refl _) _;replace B0:=Lh B0;replace Ba:=Lh Ba;rw[←hn] at hl⊢;clear hn hs hv hG;obtain⟨F,hF⟩: ∃F,F=qdy ss:=⟨_,rfl⟩;unfold qkc;rw[←hF] at hW⊢;clear hF;go_enter Tryz.func20,Tryz.ntmps20;go_wp2_with fail;generalize w.alloc (.cells #[.pointer none,.slice none 0 0] 80)=W0 at B0 Ba⊢;go_loopg [12] (n+1) (fun gk s12 wx=> ∃(i:Nat) (acc:List UInt8),i≤n∧n - i<gk∧s12= .int .i64 (i:Int)∧acc.length≤140000∧Hid (qaR i acc (ss.drop i)=R)∧Hid (L.BldK w.heap.size w.heap.size acc wx)∧Hid (Below w.heap.size w wx))
 case atStart=>exact⟨0,[],by omega,by omega,by go_num,by simp,Lh hR.out.symm,B0,Ba⟩
 case round=>
  clear B0 Ba;obtain⟨i,acc,hi,hgk,rfl,hal,hP,D,B⟩:=hrel
  by_cases hlt:i<n
  ·have hil:i<ss.length:=by rw[←hnh.out];exact hlt
   have u2:decide ((i:Int)<(n:Int))=true:=dT (by omega);have u3:decide (i<n)=true:=dT hlt;obtain⟨bb,off,lv,rfl,hbl,⟨x0,x1,x2,x3⟩,hxl⟩:=(HV.out.on B.out).at' i hil;have hP2:=hP.out;rw[qpb ss i hil,qaR] at hP2;obtain⟨s,hsx⟩: ∃s,Hid (s=ss.getD i qaW):=⟨_,Lh rfl⟩;rw[←hsx.out] at x1 x2 x3 hxl hP2;have hsm:=HS.out s (by rw[hsx.out,List.getD_eq_getElem?_getD,List.getElem?_eq_getElem hil];exact List.getElem_mem _);obtain⟨la,lc,rfl⟩:=hxl.shape;have hll:=qkL s;have cl:=fun W (hb:Below wr.heap.size wr W)=>qhD _ s hsm.1 hsm.2.1 hsm.2.2 W (GG.out W (B.out.trans (hb.mono B.out.size))) ⟨_,rfl,hxl.on hb⟩
   obtain⟨le,lt,hL⟩: ∃le lt,qcd s=(le,lt):=⟨_,_,rfl⟩;rw[hL] at hP2 hll;simp only[hL] at cl;replace cl:=Lh cl;replace hP2:=Lh hP2;have Bx: ∀ob,Hid (Below wr.heap.size wr (wr.alloc ob)):=fun ob=>Lh ((Below.refl _ _).alloc (Nat.le_refl _) ob)
   obtain⟨ls,bits,st,t⟩:=s;simp only at x0 x1 x2 x3 cl;clear hxl hsm hsx hP hL hil;go_wp2_with fail;refine(cl.out _ (Bx _).out).mono ?_;rintro e w2 ⟨rfl,B2⟩;have Bw:=(Bx (.cells #[.slice la ls.length lc,.int .u64 (bits:Int),.bool st,.int .i64 t] 34)).out;have Bz:=Bw.trans (B2.mono Bw.size);replace D:=Lh (qsN D.out Bz);replace B:=Lh (B.out.trans (Bz.mono B.out.size));clear Bw Bz B2 Bx cl x0 x1 x2 x3
   by_cases he:le=0
   ·have v1:(le !=0)=false:=by simp[he]
    have hP3:=hP2.out;simp only[he,if_true] at hP3;replace hP3:=Lh hP3;have cn:=Tryz.Builder_Len_f w.heap.size w.heap.size (Lib.byteCells acc) w2 D.out;rw[show(Lib.byteCells acc).length=acc.length by simp[Lib.byteCells]] at cn;replace cn:=Lh cn;clear hP2
    by_cases ha:acc.length≤65536
    ·have v2:decide ((acc.length:Int)≤65536)=true:=dT (by omega);have v2':decide (acc.length≤65536)=true:=dT ha;have v3:(BS lt).size≤65536:=by rw[qac];exact hll
     have hP4:=hP3.out;rw[if_pos ha] at hP4;replace hP4:=Lh hP4;have cw:=L.ws_k w.heap.size w.heap.size acc (BS (lt++[10])) (by rw[qac,List.length_append];simp at hll⊢;omega) w2 D.out B.out.size;rw[←qaY] at cw;replace cw:=Lh cw;clear hP3;go_wp2_with fail;refine cn.out.mono ?_;rintro e w3 ⟨rfl,rfl⟩;clear cn;go_wp2_with fail;refine cw.out.mono ?_;rintro e w4 ⟨rfl,hd4,hb4,_⟩;rw[qaY,show(BS (lt++[10])).data.toList=lt++[10] by simp[BS]] at hd4;replace D:=Lh hd4;replace B:=Lh (B.out.trans hb4);clear hd4 hb4 cw;go_wp2_with fail;go_roundg (gk - 1)
     case measure=>omega
     case rel=>exact⟨i+1,_,by omega,by omega,by go_num,by simp at hll⊢;omega,hP4,D,B⟩
    ·have v2:decide ((acc.length:Int)≤65536)=false:=dF (by omega);have v2':decide (acc.length≤65536)=false:=dF ha;have hP4:=hP3.out;rw[if_neg ha] at hP4;replace hP4:=Lh hP4;clear hP3;go_wp2_with fail;refine cn.out.mono ?_;rintro e w3 ⟨rfl,rfl⟩;clear cn;go_wp2_with fail;go_roundg (gk - 1)
     case measure=>omega
     case rel=>exact⟨i+1,_,by omega,by omega,by go_num,hal,hP4,D,B⟩
   ·have v1:(le !=0)=true:=by simpa using he
    have hFF:F=(le,(i:Int),[]):=by
     have h1:=hP2.out;rw[if_neg he] at h1;rw[hW.out,←h1];simp only[if_neg he]
    have hFh:=Lh hFF;clear hFF hP2;go_wp2_with fail;go_ret3;exact⟨by rw[hFh.out];rfl,B.out⟩
  ·obtain rfl:i=n:=by omega
   have u2:decide ((i:Int)<(i:Int))=false:=dF (by omega);have hP2:=hP.out;rw[List.drop_of_length_le (by rw[←hnh.out];exact Nat.le_refl _),qaR] at hP2;have hW2:=hW.out;rw[←hP2] at hW2;simp only[if_true] at hW2
   by_cases h1000:1000<i
   ·have v1:decide ((1000:Int)<(i:Int))=true:=dT (by omega);have v1':decide (1000<i)=true:=dT h1000;have hFh:=Lh (hW2.trans (if_pos h1000));clear hW2 hP2 hW hP;go_wp2_with fail;go_ret3;exact⟨by rw[hFh.out];rfl,B.out⟩
   ·have v1:decide ((1000:Int)<(i:Int))=false:=dF (by omega);have v1':decide (1000<i)=false:=dF h1000;rw[if_neg h1000] at hW2;have cn:=Tryz.Builder_Len_f w.heap.size w.heap.size (Lib.byteCells acc) wr D.out;rw[show(Lib.byteCells acc).length=acc.length by simp[Lib.byteCells]] at cn;replace cn:=Lh cn
    by_cases h65:65536<acc.length
    ·have v2:decide ((65536:Int)<(acc.length:Int))=true:=dT (by omega);have v2':decide (65536<acc.length)=true:=dT h65;have hFh:=Lh (hW2.trans (if_pos h65));clear hW2 hP2 hW hP;go_wp2_with fail;refine cn.out.mono ?_;rintro e w3 ⟨rfl,rfl⟩;go_wp2_with fail;go_ret3;exact⟨by rw[hFh.out];rfl,B.out⟩
    ·have v2:decide ((65536:Int)<(acc.length:Int))=false:=dF (by omega);have v2':decide (65536<acc.length)=false:=dF h65;have hFh:=Lh (hW2.trans (if_neg h65));have cs:=Lh (L.str_k w.heap.size w.heap.size acc (BS acc) rfl wr D.out B.out.size);clear hW2 hP2 hW hP;go_wp2_with fail;refine cn.out.mono ?_;rintro e w3 ⟨rfl,rfl⟩;clear cn;go_wp2_with fail;refine cs.out.mono ?_;rintro e w4 ⟨rfl,_,hb4,_⟩;replace B:=Lh (B.out.trans hb4);clear cs hb4;go_wp2_with fail;go_ret3;exact⟨by rw[hFh.out];rfl,B.out⟩
theorem SLRow.of_own {base:Nat} {W:World} {v:Value} {ss:List Smp} (h:qrC base W v ss):SLRow W v ss:=by
 obtain⟨ps,rfl,h2,h3⟩:=h;rcases h2.2 with ⟨h4,h5⟩|⟨g,cap,cur,h4,h5,h6,h7,h8,h9,h10⟩
 ·have:ps=[]:=List.eq_nil_of_length_eq_zero h5;subst this;exact .inl ⟨none,0,fun _=>rfl,h4,rfl⟩
 ·refine .inr ⟨g,0,cap,by rw[h4,List.length_map],(Array.getElem?_eq_some_iff.1 h6).1,by rw[List.length_map];exact h7,h8,fun i hi=>?_⟩;rw[List.length_map] at hi
  have hc: ∀j,j<ps.length*4→W.cell? ⟨g,j,none⟩=(qaO ps)[j]?:=fun j hj=>by
   rw[Lib.cell_of_heap h6,←h10,List.getElem?_take_of_lt hj];simp
  have hs: ∀(ps:List SV) (i:Nat),i<ps.length→(qaO ps)[i*4]?=(ps[i]?).map (fun p=>p.2)∧(qaO ps)[i*4+1]?=(ps[i]?).map (fun p=>Value.int .u64 (p.1.bits:Int))∧(qaO ps)[i*4+2]?=(ps[i]?).map (fun p=>Value.bool p.1.st)∧(qaO ps)[i*4+3]?=(ps[i]?).map (fun p=>Value.int .i64 p.1.t):=by
   intro ps
   induction ps with
   |nil=>intro i hi;simp at hi
   |cons p t ih=>
    intro i hi
    cases i with
    |zero=>exact⟨rfl,rfl,rfl,rfl⟩
    |succ i=>
     have:=ih i (by simpa using hi);rw[show(i+1)*4=i*4+4 by omega];exact this
  obtain⟨k0,k1,k2,k3⟩:=hs ps i hi
  have e:(ps.map Prod.fst).getD i qaW=(ps[i]).1:=by
   rw[List.getD_eq_getElem?_getD,List.getElem?_map,List.getElem?_eq_getElem hi];rfl
  rw[List.getElem?_eq_getElem hi] at k0 k1 k2 k3;refine⟨(ps[i]).2,⟨?_,?_,?_,?_⟩,?_⟩
  ·rw[Nat.zero_add,hc _ (by omega)];exact k0
  ·rw[Nat.zero_add,hc _ (by omega),e];exact k1
  ·rw[Nat.zero_add,hc _ (by omega),e];exact k2
  ·rw[Nat.zero_add,hc _ (by omega),e];exact k3
  ·rw[e];exact qaM.of_owned (h3 _ (List.getElem_mem _))
end Go.Proofs.YtdeimnnpcfncpaaGreatDoor.X
end
