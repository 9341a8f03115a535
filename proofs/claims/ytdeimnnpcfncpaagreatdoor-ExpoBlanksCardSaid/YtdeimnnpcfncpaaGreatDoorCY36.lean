/- Parts of the proof: R0 RJ RJB. -/
import Derived.Deep.RegionLawGrows
import Derived.Deep.RegionLaw
import Derived.Lib.AppendStr
import Derived.Test.YtdeimnnpcfncpaaGreatDoorCY35
set_option linter.unusedVariables false
set_option linter.unusedSimpArgs false
set_option maxRecDepth 100000
set_option maxHeartbeats 64000000
section
namespace Go.Proofs.YtdeimnnpcfncpaaGreatDoor.X
open Go Go.RowKit
theorem qiR (a:Nat) (ha:a<18446744073709551616) (hn:Go.Proofs.YtdeimnnpcfncpaaGreatDoor.kindN a≠4∨a=9221120237041090561):qqm (qak a):=by
 rcases Bool.eq_false_or_eq_true (qdU a)with h|h
 ·have e:a=9221120237041090561:=by
   rcases hn with h'|h'
   ·exact absurd ((qp4 a ha).2 h) h'
   ·exact h'
  subst e;exact qg5 (.inl (by decide+kernel))
 ·intro w hG;refine(qnr a ha h w hG.b).mono ?_;rintro x w' ⟨rfl,hB⟩;exact⟨a,0,rfl,.inl ⟨rfl,qew a ha (.inl h)⟩,hB⟩
end Go.Proofs.YtdeimnnpcfncpaaGreatDoor.X
end
section
namespace Go.Proofs.YtdeimnnpcfncpaaGreatDoor
open Go Go.RowKit Go.Shelf
section
variable {P:Program} {ops:Array Oper} {Q:Exit→Act→World→Prop} {a:Act} {w:World} {K:Act→World→Prop} {i:Nat} {o:Oper}
theorem qgZ {ops:Array Oper} {md:Region.Mode} (hlow: ∀(i:Nat) (o:Oper),ops[i]?=some o→ ∀e∈o.after,Region.binds md e=true→e.on<i) (listed:Array Bool) (hsz:listed.size=ops.size) (hr:Region.ready md ops listed=[]):
 ∀i,i<ops.size→listed.getD i false=true:=by
 intro i
 induction i using Nat.strongRecOn with
 |_ i ih=>
  intro hi
  by_cases hl:listed.getD i false=true
  ·exact hl
  ·exfalso
   have hm:i∈Region.ready md ops listed:=by
    rw[mem_ready];have hi':i<listed.size:=by omega
    refine⟨by simpa [hi'] using hl,ops[i],by simp[hi],fun e he hb=>ih _ (hlow i ops[i] (by simp[hi]) e he hb) ?_⟩;have:=hlow i ops[i] (by simp[hi]) e he hb;omega
   rw[hr] at hm;cases hm
def waits (l:List Oper) (j:Nat):List Nat:=match l[j]? with|some o=>(o.after.toList.filter (fun e=>Region.binds .any e)).map (·.on)|none=>[]
def reach (l:List Oper):Nat→Nat→List Nat
 |0,_=>[]
 |f+1,j=>waits l j++(waits l j).flatMap (reach l f)
theorem qbD {l:List Oper} {listed:Nat→Bool} (hcl: ∀i,listed i=true→ ∀k,(waits l i).contains k=true→listed k=true): ∀f i,listed i=true→ ∀k,(reach l f i).contains k=true→listed k=true:=by
 intro f
 induction f with
 |zero=>intro i _ k h;simp[reach] at h
 |succ f ih=>
  intro i hi k h;rw[List.contains_iff_mem,reach,List.mem_append,List.mem_flatMap] at h;rcases h with h|⟨j,hj,h⟩
  ·exact hcl i hi k (List.contains_iff_mem.2 h)
  ·exact ih j (hcl i hi j (List.contains_iff_mem.2 hj)) k (List.contains_iff_mem.2 h)
def clash (l:List Oper) (needs:Nat→List Nat) (fin:List Nat) (i j:Nat):Bool:=
 i !=j&&!((reach l l.length i).contains j)&&(fin.contains i||(List.range l.length).any fun j'=>(needs j').contains i&&j' !=j&&!((reach l l.length j).contains j'))
end
section
variable {P:Program} {ops:Array Oper} {Q:Exit→Act→World→Prop} {a:Act} {w:World} {K:Act→World→Prop} {i:Nat} {o:Oper}
def ahead (l:List Oper) (t j:Nat):Bool:=(List.range l.length).all fun i=>match l[i]? with|some o=>o.dst !=some t||(reach l l.length i).contains j|none=>true
theorem qmu {l:List Oper} {t j i:Nat} {o:Oper} (h:ahead l t j=true) (hi:l[i]?=some o) (hd:o.dst=some t):(reach l l.length i).contains j=true:=by
 have hl:i<l.length:=(List.getElem?_eq_some_iff.1 hi).1;have:=List.all_eq_true.1 h i (List.mem_range.2 hl);rw[hi] at this;have h2:(o.dst !=some t||(reach l l.length i).contains j)=true:=this;rw[hd] at h2;simpa using h2
theorem qdr {id:Nat} {l:List Oper} {a0:Act} {w0:World} (Bs:Nat) (wr:List Nat) (needs:Nat→List Nat) (fin:List Nat) (F:Nat→Value→World→Prop) (R:Nat→World→World→Prop)
 (hm:P.follows .mixedOrders=true)
 (hlow:(List.range l.length).all (fun i=>((l[i]?).map fun o=>o.after.all fun e=>!(Region.binds .any e)||decide (e.on<i)).getD true)=true)
 (hdist:(l.map (·.dst)).Pairwise (· ≠ ·))
 (hdst:l.all (fun o=>(o.dst.map fun d=>decide (d<a0.tmps.size)).getD false)=true)
 (hneeds:(List.range l.length).all (fun j=>(needs j).all fun i=>(waits l j).contains i)=true)
 (hR: ∀j w w',Below Bs w0 w→R j w w'→Below Bs w0 w')
 (hR2: ∀j w w',wr.contains j=false→R j w w'→Below w.heap.size w w')
 (hkeep: ∀i j v w w',i<l.length→j<l.length→i≠j→(reach l l.length i).contains j=false→(i∈fin∨ ∃j',i∈needs j'∧j'≠j∧(reach l l.length j).contains j'=false)→Below Bs w0 w→F i v w→R j w w'→F i v w')
 (hstep: ∀j o,l[j]?=some o→ ∀a w,Below Bs w0 w→(∀t,ahead l t j=true→a.tmps.getD t undef=a0.tmps.getD t undef)→((wr.all fun i=>(reach l l.length i).contains j)=true→Below w0.heap.size w0 w)→
   (∀i∈needs j,∀o',l[i]?=some o'→F i (qaD a o') w)→
   wpOp P l.toArray Q j (fun a' w'=> ∃v,a'=a.put o.dst v∧R j w w'∧F j v w') a w)
 (hend: ∀a w,Below Bs w0 w→(∀i∈fin,∀o,l[i]?=some o→F i (qaD a o) w)→a=l.foldl (qap a) a0→Q .normal a w):
 (Code.region id l.toArray true).wp P Q a0 w0:=by
 refine wp_region_any hm ?_
 have hlow': ∀(i:Nat) (o:Oper),l.toArray[i]?=some o→ ∀e∈o.after,Region.binds .any e=true→e.on<i:=by
  intro i o ho e he hb
  have hi:i<l.length:=by
   rcases Nat.lt_or_ge i l.length with h|h
   ·exact h
   ·simp[List.getElem?_eq_none h] at ho
  have:=List.all_eq_true.1 hlow i (List.mem_range.2 hi);simp at ho;rw[ho] at this;simp at this;obtain⟨k,hk,rfl⟩:=Array.mem_iff_getElem.1 he;have h2:=this k hk;rw[hb] at h2;simpa using h2
 have hwait: ∀(j:Nat) (o:Oper),l[j]?=some o→ ∀i,(waits l j).contains i=true↔ ∃e∈o.after,Region.binds .any e=true∧e.on=i:=by
  intro j o ho i;unfold waits;rw[ho];simp only[List.contains_iff_mem,List.mem_map,List.mem_filter];constructor
  ·rintro⟨e,⟨h1,h2⟩,h3⟩;exact⟨e,Array.mem_toList_iff.1 h1,h2,h3⟩
  ·rintro⟨e,h1,h2,h3⟩;exact⟨e,⟨Array.mem_toList_iff.2 h1,h2⟩,h3⟩
 have hdd: ∀(i j:Nat) oi oj t,l[i]?=some oi→l[j]?=some oj→oi.dst=some t→oj.dst=some t→i=j:=by
  intro i j oi oj t hi hj e1 e2;obtain⟨hi1,hi2⟩:=List.getElem?_eq_some_iff.1 hi;obtain⟨hj1,hj2⟩:=List.getElem?_eq_some_iff.1 hj;rw[List.pairwise_iff_getElem] at hdist;rcases Nat.lt_trichotomy i j with h|h|h
  ·exact absurd (by rw[List.getElem_map,List.getElem_map,hi2,hj2,e1,e2]) (hdist i j (by simpa) (by simpa) h)
  ·exact h
  ·exact absurd (by rw[List.getElem_map,List.getElem_map,hi2,hj2,e1,e2]) (hdist j i (by simpa) (by simpa) h)
 refine qd9 (I:=fun listed a w=>listed.size=l.length∧a.tmps.size=a0.tmps.size∧a.defers=a0.defers∧Below Bs w0 w∧((∀i∈wr,listed.getD i false=false)→Below w0.heap.size w0 w)∧(∀t,(∀(i:Nat) o,l[i]?=some o→o.dst=some t→listed.getD i false=false)→a.tmps[t]?=a0.tmps[t]?)∧
  (∀i,listed.getD i false=true→ ∀k,(waits l i).contains k=true→listed.getD k false=true)∧
  (∀i o,l[i]?=some o→listed.getD i false=true→(i∈fin∨ ∃j',i∈needs j'∧listed.getD j' false=false)→F i (qaD a o) w)) ?_ ?_ _ _ _ _ ?_ ?_
 ·rintro listed a w j ⟨h1,h2,h3,h4,h4s,h5,hcl,h6⟩ hj;obtain⟨hu,o,ho,haft⟩:=mem_ready.1 hj;have ho':l[j]?=some o:=by simpa using ho
  have hu':listed.getD j false=false:=by
   rw[Array.getD_eq_getD_getElem?] at hu⊢
   cases hc:listed[j]? with
   |none=>rfl
   |some b=>rw[hc] at hu;exact hu
  have hjl:j<l.length:=(List.getElem?_eq_some_iff.1 ho').1
  have hw: ∀k,(waits l j).contains k=true→listed.getD k false=true:=by
   intro k hk;obtain⟨e,he,hb,rfl⟩:=(hwait j o ho' k).1 hk;exact haft e he hb
  have hnd: ∀i∈needs j,(waits l j).contains i=true:=fun i hi=>by
   have:=List.all_eq_true.1 hneeds j (List.mem_range.2 hjl);exact List.all_eq_true.1 this i hi
  refine wpOp_mono ?_ (hstep j o ho' a w h4 (fun t ht=>by simp[h5 t (fun i oi hi hd=>by
   cases hl:listed.getD i false with
   |false=>rfl
   |true=>
    have:=qbD (listed:=fun i=>listed.getD i false) hcl l.length i hl j (qmu ht hi hd)
    rw[hu'] at this;cases this)]) (fun hso=>h4s (fun i hi=>by
   cases hl:listed.getD i false with
   |false=>rfl
   |true=>
    have:=qbD (listed:=fun i=>listed.getD i false) hcl l.length i hl j (List.all_eq_true.1 hso i hi)
    rw[hu'] at this;cases this)) (fun i hi o' hoe=>h6 i o' hoe (hw i (hnd i hi)) (.inr ⟨j,hi,hu'⟩)))
  rintro a' w' ⟨v,rfl,hRj,hF⟩;have hom:o∈l:=List.mem_of_getElem? ho';have hd:=List.all_eq_true.1 hdst o hom
  obtain⟨d,hod,hdlt⟩: ∃d,o.dst=some d∧d<a0.tmps.size:=by
   cases hx:o.dst with
   |none=>simp[hx] at hd
   |some d=>simp[hx] at hd;exact⟨d,rfl,hd⟩
  have hget: ∀i,i≠j→(listed.setIfInBounds j true).getD i false=listed.getD i false:=fun i hij=>getD_set_ne false (fun e=>hij e.symm)
  refine⟨by simp[h1],by rw[hod];simp[Act.put,h2],by rw[hod];simp[Act.put,h3],hR j w w' h4 hRj,fun hso=>?_,fun t ht=>?_,?_,?_⟩
  ·have hjs:j<listed.size:=by omega
   have hjw:wr.contains j=false:=by
    cases hc:wr.contains j with
    |false=>rfl
    |true=>
     have:=hso j (List.contains_iff_mem.1 hc);simp[hjs] at this
   have h8:=h4s (fun i hi=>by
    have:=hso i hi
    by_cases hij:i=j
    ·subst hij;exact hu'
    ·rwa[hget i hij] at this)
   exact h8.trans ((hR2 j w w' hjw hRj).mono h8.size)
  ·have hjs:j<listed.size:=by omega
   have hne:d≠t:=fun e=>by
    have:=ht j o ho' (by rw[hod,e]);simp[hjs] at this
   rw[hod];simp only[Act.put];rw[Array.getElem?_setIfInBounds_ne hne];refine h5 t (fun i oi hi hd'=>?_);have h:=ht i oi hi hd'
   by_cases hij:i=j
   ·subst hij;simp[hjs] at h
   ·rwa[hget i hij] at h
  ·intro i hl k hk
   by_cases hkj:k=j
   ·subst hkj;have:k<listed.size:=by omega
    simp[this]
   ·rw[hget k hkj]
    by_cases hij:i=j
    ·subst hij;exact hw k hk
    ·rw[hget i hij] at hl;exact hcl i hl k hk
  ·intro i oi hi hl hwant
   by_cases hij:i=j
   ·subst hij;obtain rfl:o=oi:=Option.some.inj (ho'.symm.trans hi);have:qaD (a.put o.dst v) o=v:=by simp[qaD,hod,Act.put,h2,hdlt]
    rw[this];exact hF
   ·rw[hget i hij] at hl
    have hslot:qaD (a.put o.dst v) oi=qaD a oi:=by
     unfold qaD
     cases hoj:oi.dst with
     |none=>rfl
     |some t=>
      have hne:d≠t:=fun e=>hij (hdd i j oi o d hi ho' (by rw[hoj,e]) hod)
      rw[hod];simp[Act.put,Array.getElem?_setIfInBounds_ne hne]
    rw[hslot];have hil:i<l.length:=(List.getElem?_eq_some_iff.1 hi).1
    have hnw:(reach l l.length i).contains j=false:=by
     cases hc:(reach l l.length i).contains j with
     |false=>rfl
     |true=>have:=qbD (listed:=fun i=>listed.getD i false) hcl l.length i hl j hc;rw[hu'] at this;cases this
    rcases hwant with hw1|⟨j',hj1,hj2⟩
    ·exact hkeep i j _ w w' hil hjl hij hnw (.inl hw1) h4 (h6 i oi hi hl (.inl hw1)) hRj
    ·have hjj:j'≠j:=by
      intro e;subst e;have:j'<listed.size:=by omega
      simp[this] at hj2
     rw[hget j' hjj] at hj2
     have hnw2:(reach l l.length j).contains j'=false:=by
      cases hc:(reach l l.length j).contains j' with
      |false=>rfl
      |true=>
       exfalso;obtain⟨f,hf⟩: ∃f,l.length=f+1:=⟨l.length - 1,by omega⟩;rw[hf,List.contains_iff_mem,reach,List.mem_append,List.mem_flatMap] at hc;rcases hc with hc|⟨k,hk,hc⟩
       ·have:=hw j' (List.contains_iff_mem.2 hc);rw[hj2] at this;cases this
       ·have:=qbD (listed:=fun i=>listed.getD i false) hcl f k (hw k (List.contains_iff_mem.2 hk)) j' (List.contains_iff_mem.2 hc);rw[hj2] at this;cases this
     exact hkeep i j _ w w' hil hjl hij hnw (.inr ⟨j',hj1,hjj,hnw2⟩) h4 (h6 i oi hi hl (.inr ⟨j',hj1,hj2⟩)) hRj
 ·rintro listed a w ⟨h1,h2,h3,h4,_,h5,_,h6⟩ hr;have hal:=qgZ hlow' listed (by simpa using h1) hr;refine hend a w h4 (fun i hi o ho=>h6 i o ho (hal i ?_) (.inl hi)) (qhc a a0 l h2 h3 (fun t ht=>h5 t (fun i o hi hd=>absurd hd (ht o (List.mem_of_getElem? hi)))));have:=(List.getElem?_eq_some_iff.1 ho).1;simpa using this
 ·rw[show l.toArray.size=l.length by simp,Array.toList_replicate,qa3];exact Nat.le_trans (List.length_filter_le _ _) (by simp)
 ·refine⟨by simp,rfl,rfl,(Below.refl _ _).trans ⟨rfl,rfl,rfl,Nat.le_refl _,fun _ _=>rfl⟩,fun _=>(Below.refl _ _).trans ⟨rfl,rfl,rfl,Nat.le_refl _,fun _ _=>rfl⟩,fun _ _=>rfl,fun i hl=>?_,fun i o ho hl=>?_⟩
  ·exfalso;rw[Array.getD_eq_getD_getElem?,Array.getElem?_replicate] at hl
   split at hl<;>cases hl
  ·have:=(List.getElem?_eq_some_iff.1 ho).1;simp[this] at hl
theorem qbs {id:Nat} {l:List Oper} {a0:Act} {w0:World} (Bs:Nat) (hBs:Bs≤w0.heap.size) (needs:Nat→List Nat) (fin fr wr:List Nat) (F:Nat→Value→World→Prop)
 (hm:P.follows .mixedOrders=true)
 (hlow:(List.range l.length).all (fun i=>((l[i]?).map fun o=>o.after.all fun e=>!(Region.binds .any e)||decide (e.on<i)).getD true)=true)
 (hdist:(l.map (·.dst)).Pairwise (· ≠ ·))
 (hdst:l.all (fun o=>(o.dst.map fun d=>decide (d<a0.tmps.size)).getD false)=true)
 (hneeds:(List.range l.length).all (fun j=>(needs j).all fun i=>(waits l j).contains i)=true)
 (hlast: ∀j,l.length≤j→needs j=[])
 (hclash:(wr.all fun j=>fr.all fun i=>!(clash l needs fin i j))=true)
 (hk1: ∀i v w w',F i v w→Below w.heap.size w w'→F i v w')
 (hk2: ∀i v w w',fr.contains i=false→Below Bs w0 w→F i v w→Below Bs w w'→F i v w')
 (hstep: ∀j o,l[j]?=some o→ ∀a w,Below Bs w0 w→(∀t,ahead l t j=true→a.tmps.getD t undef=a0.tmps.getD t undef)→((wr.all fun i=>(reach l l.length i).contains j)=true→Below w0.heap.size w0 w)→
   (∀i∈needs j,∀o',l[i]?=some o'→F i (qaD a o') w)→
   wpOp P l.toArray Q j (fun a' w'=> ∃v,a'=a.put o.dst v∧(if wr.contains j then Below Bs w w' else Below w.heap.size w w')∧F j v w') a w)
 (hend: ∀a w,Below Bs w0 w→(∀i∈fin,∀o,l[i]?=some o→F i (qaD a o) w)→a=l.foldl (qap a) a0→Q .normal a w):
 (Code.region id l.toArray true).wp P Q a0 w0:=by
 refine qdr Bs wr needs fin F (fun j w w'=>if wr.contains j then Below Bs w w' else Below w.heap.size w w') hm hlow hdist hdst hneeds ?_ (fun j w w' hj h=>by rw[if_neg (by rw[hj];decide)] at h;exact h) ?_ hstep hend
 ·intro j w w' h h2
  split at h2
  ·exact h.trans h2
  ·exact h.trans (h2.mono (Nat.le_trans hBs h.size))
 ·intro i j v w w' _ _ hij h1 h2 hb0 hF hR
  split at hR
  ·rename_i hwj
   cases hfi:fr.contains i with
   |true=>
    exfalso;have hc:=List.all_eq_true.1 (List.all_eq_true.1 hclash j (List.contains_iff_mem.1 hwj)) i (List.contains_iff_mem.1 hfi)
    have:clash l needs fin i j=true:=by
     unfold clash;rw[h1,show(i !=j)=true by simpa using hij];simp only[Bool.not_false,Bool.and_true,Bool.true_and,Bool.or_eq_true,List.any_eq_true];rcases h2 with h2|⟨j',e1,e2,e3⟩
     ·exact .inl (List.contains_iff_mem.2 h2)
     ·refine .inr ⟨j',?_,?_⟩
      ·rcases Nat.lt_or_ge j' l.length with h|h
       ·exact List.mem_range.2 h
       ·rw[hlast j' h] at e1;cases e1
      ·rw[List.contains_iff_mem.2 e1,e3,show(j' !=j)=true by simpa using e2];rfl
    rw[this] at hc;cases hc
   |false=>exact hk2 i v w w' hfi hb0 hF hR
  ·exact hk1 i v w w' hF hR
end
end Go.Proofs.YtdeimnnpcfncpaaGreatDoor
end
