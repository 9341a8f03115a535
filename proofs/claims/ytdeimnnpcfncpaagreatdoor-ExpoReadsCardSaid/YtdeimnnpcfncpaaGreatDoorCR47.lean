/- Parts of the proof: NF. -/
import Derived.Test.YtdeimnnpcfncpaaGreatDoorCR46
set_option linter.unusedVariables false
set_option linter.unusedSimpArgs false
set_option maxRecDepth 100000
set_option maxHeartbeats 64000000
namespace Go.Proofs.YtdeimnnpcfncpaaGreatDoor
open Go Go.RowKit
section
section
variable {P:Program} {ops:Array Oper} {md:Region.Mode} {Q:Exit→Act→World→Prop}
theorem qiz (hlow: ∀(i:Nat) (o:Oper),ops[i]?=some o→ ∀e∈o.after,Region.binds md e=true→e.on<i) (listed:Array Bool) (hsz:listed.size=ops.size) (hr:Region.ready md ops listed=[]):
 ∀i,i<ops.size→listed.getD i false=true:=by
 intro i
 induction i using Nat.strongRecOn with
 |_ i ih=>
  intro hi
  by_cases hl:listed.getD i false=true
  ·exact hl
  ·exfalso
   have hm:i∈Region.ready md ops listed:=by
    rw[mem_ready];have hi':i<listed.size:=by omega
    refine⟨by simpa [hi'] using hl,ops[i],by simp[hi],fun e he hbd=>ih _ (hlow i ops[i] (by simp[hi]) e he hbd) ?_⟩;have:=hlow i ops[i] (by simp[hi]) e he hbd;omega
   rw[hr] at hm;cases hm
end
end
section
section
variable {P:Program} {Q:Exit→Act→World→Prop}
def qky (l:List Oper) (e i:Nat):Bool:=((l[e]?).map fun o=>o.after.any fun ed=>Region.binds .any ed&&ed.on==i).getD false
theorem qdc {l:List Oper} {e i:Nat} (h:qky l e i=true): ∃o,l[e]?=some o∧ ∃ed∈o.after,Region.binds .any ed=true∧ed.on=i:=by
 unfold qky at h
 cases hx:l[e]? with
 |none=>rw[hx] at h;simp at h
 |some o=>
  rw[hx] at h;simp only[Option.map_some,Option.getD_some] at h;obtain⟨k,hk,h1⟩:=Array.any_eq_true.1 h;rw[Bool.and_eq_true] at h1;exact⟨o,rfl,_,Array.getElem_mem hk,h1.1,by simpa using h1.2⟩
theorem qbE {listed:Array Bool} {i j:Nat} (hi:i<listed.size):(listed.setIfInBounds i true).getD j false=true↔(j=i∨listed.getD j false=true):=by
 by_cases h:j=i
 ·subst h;simp[Array.getD_eq_getD_getElem?,hi]
 ·rw[getD_set_ne false (fun e=>h e.symm)];constructor
  ·exact .inr
  ·rintro(e|e)
   ·exact absurd e h
   ·exact e
theorem qeG {id:Nat} {l:List Oper} {a0:Act} {w0:World} (e1 e2 e3:Nat) (F:Nat→Value→Prop) (W0:World→Prop) (W1 W2:Value→World→Prop) (W3:World→Prop)
 (hm:P.follows .mixedOrders=true)
 (hlow:(List.range l.length).all (fun i=>((l[i]?).map fun o=>o.after.all fun e=>!(Region.binds .any e)||decide (e.on<i)).getD true)=true)
 (hdist:(List.range l.length).all (fun i=>(List.range l.length).all fun j=>i==j||(((l[i]?).map (·.dst)).getD none).isNone||((l[i]?).map (·.dst)).getD none !=((l[j]?).map (·.dst)).getD none)=true)
 (hdst:l.all (fun o=>(o.dst.map fun d=>decide (d<a0.tmps.size)).getD true)=true)
 (h12:qky l e2 e1=true) (h23:qky l e3 e2=true) (n12:e1≠e2) (n23:e2≠e3) (n13:e1≠e3) (hl1:e1<l.length) (hl2:e2<l.length) (hl3:e3<l.length)
 (hstart:W0 {w0 with drawn:=w0.drawn+1})
 (hpure: ∀i o,l[i]?=some o→i≠e1→i≠e2→i≠e3→ ∀a w,(∀t,(∀o∈l,o.dst≠some t)→a.tmps.getD t undef=a0.tmps.getD t undef)→
   (∀e∈o.after,Region.binds .any e=true→ ∀o',l[e.on]?=some o'→o'.dst≠none→F e.on (qaO a o'))→(qky l e2 i=true→W0 w∨ ∃v,W1 v w)→
   wpOp P l.toArray Q i (fun a' w'=> ∃v,a'=a.put o.dst v∧w'=w∧F i v) a w)
 (h1: ∀o,l[e1]?=some o→ ∀a w,(∀t,(∀o∈l,o.dst≠some t)→a.tmps.getD t undef=a0.tmps.getD t undef)→
   (∀e∈o.after,Region.binds .any e=true→ ∀o',l[e.on]?=some o'→o'.dst≠none→F e.on (qaO a o'))→W0 w→
   wpOp P l.toArray Q e1 (fun a' w'=> ∃v,a'=a.put o.dst v∧F e1 v∧W1 v w') a w)
 (h2: ∀o o1,l[e2]?=some o→l[e1]?=some o1→ ∀a w,(∀t,(∀o∈l,o.dst≠some t)→a.tmps.getD t undef=a0.tmps.getD t undef)→
   (∀e∈o.after,Region.binds .any e=true→ ∀o',l[e.on]?=some o'→o'.dst≠none→F e.on (qaO a o'))→W1 (qaO a o1) w→
   wpOp P l.toArray Q e2 (fun a' w'=> ∃v,a'=a.put o.dst v∧F e2 v∧W2 v w') a w)
 (h3: ∀o o2,l[e3]?=some o→l[e2]?=some o2→ ∀a w,(∀t,(∀o∈l,o.dst≠some t)→a.tmps.getD t undef=a0.tmps.getD t undef)→
   (∀e∈o.after,Region.binds .any e=true→ ∀o',l[e.on]?=some o'→o'.dst≠none→F e.on (qaO a o'))→W2 (qaO a o2) w→
   wpOp P l.toArray Q e3 (fun a' w'=> ∃v,a'=a.put o.dst v∧F e3 v∧W3 w') a w)
 (hs1:((l[e1]?).map (·.dst.isSome)).getD false=true) (hs2:((l[e2]?).map (·.dst.isSome)).getD false=true)
 (hend: ∀a w,W3 w→(∀i o,l[i]?=some o→o.dst≠none→F i (qaO a o))→a=l.foldl (qav a) a0→Q .normal a w):
 (Code.region id l.toArray true).wp P Q a0 w0:=by
 refine wp_region_any hm ?_
 have hlow': ∀(i:Nat) (o:Oper),l.toArray[i]?=some o→ ∀e∈o.after,Region.binds .any e=true→e.on<i:=by
  intro i o ho e he hbd
  have hi:i<l.length:=by
   rcases Nat.lt_or_ge i l.length with h|h
   ·exact h
   ·simp[List.getElem?_eq_none h] at ho
  have:=List.all_eq_true.1 hlow i (List.mem_range.2 hi);simp at ho;rw[ho] at this;simp at this;obtain⟨k,hk,rfl⟩:=Array.mem_iff_getElem.1 he;have h9:=this k hk;rcases h9 with h9|h9
  ·rw[h9] at hbd;cases hbd
  ·exact h9
 have hdd: ∀(i j:Nat) oi oj t,l[i]?=some oi→l[j]?=some oj→oi.dst=some t→oj.dst=some t→i=j:=by
  intro i j oi oj t hi hj q1 q2;obtain⟨hi1,hi2⟩:=List.getElem?_eq_some_iff.1 hi;obtain⟨hj1,hj2⟩:=List.getElem?_eq_some_iff.1 hj;have:=List.all_eq_true.1 (List.all_eq_true.1 hdist i (List.mem_range.2 hi1)) j (List.mem_range.2 hj1);rw[hi,hj] at this;simp[q1,q2] at this;exact this
 obtain⟨o1,ho1⟩: ∃o1,l[e1]?=some o1:=⟨_,gZq hl1⟩;obtain⟨o2,ho2⟩: ∃o2,l[e2]?=some o2:=⟨_,gZq hl2⟩;obtain⟨o3,ho3⟩: ∃o3,l[e3]?=some o3:=⟨_,gZq hl3⟩
 refine qht (I:=fun listed a w=>listed.size=l.length∧a.tmps.size=a0.tmps.size∧a.defers=a0.defers∧(∀t,(∀o∈l,o.dst≠some t)→a.tmps[t]?=a0.tmps[t]?)∧(∀i o,l[i]?=some o→listed.getD i false=true→o.dst≠none→F i (qaO a o))∧
  (∀i o,l[i]?=some o→listed.getD i false=true→ ∀e∈o.after,Region.binds .any e=true→listed.getD e.on false=true)∧
  (listed.getD e1 false=false→W0 w)∧(listed.getD e1 false=true→listed.getD e2 false=false→W1 (qaO a o1) w)∧(listed.getD e2 false=true→listed.getD e3 false=false→W2 (qaO a o2) w)∧(listed.getD e3 false=true→W3 w)) ?_ ?_ _ _ _ _ ?_ ?_
 ·rintro listed a w i ⟨g1,g2,g3,g5,g6,gc,k0,k1,k2,k3⟩ hi;obtain⟨hu,o,ho,haft⟩:=mem_ready.1 hi;have ho':l[i]?=some o:=by simpa using ho
  have hil:i<listed.size:=by rw[g1];exact(List.getElem?_eq_some_iff.1 ho').1
  have hui:listed.getD i false=false:=by
   have h9:=hu;rw[Array.getD_eq_getD_getElem?,Array.getElem?_eq_getElem hil] at h9⊢;simpa using h9
  have hom:o∈l:=List.mem_of_getElem? ho';have pre:=fun e he hb o' hoe hne=>g6 _ o' hoe (haft e he hb) hne
  have frm: ∀t,(∀o∈l,o.dst≠some t)→a.tmps.getD t undef=a0.tmps.getD t undef:=fun t ht=>by simp[g5 t ht]
  have c21:listed.getD e2 false=true→listed.getD e1 false=true:=fun h=>by
   obtain⟨o',q1,ed,q2,q3,q4⟩:=qdc h12;have:=gc _ _ q1 h ed q2 q3;rwa[q4] at this
  have c32:listed.getD e3 false=true→listed.getD e2 false=true:=fun h=>by
   obtain⟨o',q1,ed,q2,q3,q4⟩:=qdc h23;have:=gc _ _ q1 h ed q2 q3;rwa[q4] at this
  have hdlt: ∀d,o.dst=some d→d<a0.tmps.size:=fun d hd=>by
   have:=List.all_eq_true.1 hdst o hom;simp[hd] at this;exact this
  have slot_ne: ∀v j oj,l[j]?=some oj→i≠j→qaO (a.put o.dst v) oj=qaO a oj:=fun v j oj hj hij=>by
   unfold qaO
   cases hoj:oj.dst with
   |none=>rfl
   |some t=>
    cases hod:o.dst with
    |none=>simp[Act.put]
    |some d=>
     have hne:d≠t:=fun e=>hij (hdd i j o oj d ho' hj hod (by rw[hoj,e]))
     simp[Act.put,Array.getElem?_setIfInBounds_ne hne]
  have slot_eq: ∀v,o.dst≠none→qaO (a.put o.dst v) o=v:=fun v hne=>by
   cases hod:o.dst with
   |none=>exact absurd hod hne
   |some d=>simp[qaO,hod,Act.put,g2,hdlt d hod]
  have common: ∀v,F i v→(listed.setIfInBounds i true).size=l.length∧(a.put o.dst v).tmps.size=a0.tmps.size∧(a.put o.dst v).defers=a0.defers∧(∀t,(∀o∈l,o.dst≠some t)→(a.put o.dst v).tmps[t]?=a0.tmps[t]?)∧(∀j oj,l[j]?=some oj→(listed.setIfInBounds i true).getD j false=true→oj.dst≠none→F j (qaO (a.put o.dst v) oj))∧
   (∀j oj,l[j]?=some oj→(listed.setIfInBounds i true).getD j false=true→ ∀e∈oj.after,Region.binds .any e=true→(listed.setIfInBounds i true).getD e.on false=true):=fun v hF=>by
   refine⟨by simp[g1],?_,?_,fun t ht=>?_,fun j oj hj hl hne=>?_,fun j oj hj hl e he hb=>?_⟩
   ·cases hod:o.dst<;>simp[Act.put,g2]
   ·cases hod:o.dst<;>simp[Act.put,g3]
   ·cases hod:o.dst with
    |none=>simpa [Act.put] using g5 t ht
    |some d=>
     have hne:d≠t:=fun e=>ht o hom (by rw[hod,e])
     simp only[Act.put];rw[Array.getElem?_setIfInBounds_ne hne];exact g5 t ht
   ·by_cases hij:i=j
    ·subst hij;obtain rfl:o=oj:=by rw[ho'] at hj;exact Option.some.inj hj
     rw[slot_eq v hne];exact hF
    ·rw[getD_set_ne false hij] at hl;rw[slot_ne v j oj hj hij];exact g6 j oj hj hl hne
   ·rw[qbE hil] at hl⊢;rcases hl with rfl|hl
    ·obtain rfl:o=oj:=by rw[ho'] at hj;exact Option.some.inj hj
     exact .inr (haft e he hb)
    ·exact .inr (gc j oj hj hl e he hb)
  have some1:o1.dst≠none:=fun e=>by rw[ho1] at hs1;simp[e] at hs1
  have some2:o2.dst≠none:=fun e=>by rw[ho2] at hs2;simp[e] at hs2
  by_cases i1:i=e1
  ·subst i1;obtain rfl:o1=o:=by rw[ho'] at ho1;exact(Option.some.inj ho1).symm
   refine wpOp_mono ?_ (h1 _ ho' a w frm pre (k0 hui));rintro a' w' ⟨v,rfl,hF,hW⟩;obtain⟨q1,q2,q3,q4,q5,q6⟩:=common v hF
   have f2:listed.getD e2 false=false:=by
    cases h:listed.getD e2 false with
    |false=>rfl
    |true=>have:=c21 h;rw[hui] at this;cases this
   have f3:listed.getD e3 false=false:=by
    cases h:listed.getD e3 false with
    |false=>rfl
    |true=>have:=c32 h;rw[f2] at this;cases this
   refine⟨q1,q2,q3,q4,q5,q6,fun h=>?_,fun _ _=>?_,fun h=>?_,fun h=>?_⟩
   ·rw[(qbE hil).2 (.inl rfl)] at h;cases h
   ·rw[slot_eq v some1];exact hW
   ·rw[getD_set_ne false n12,f2] at h;cases h
   ·rw[getD_set_ne false n13,f3] at h;cases h
  ·by_cases i2:i=e2
   ·subst i2;obtain rfl:o2=o:=by rw[ho'] at ho2;exact(Option.some.inj ho2).symm
    have f1:listed.getD e1 false=true:=by
     obtain⟨o',q1,ed,q2,q3,q4⟩:=qdc h12;obtain rfl:o2=o':=by rw[ho'] at q1;exact Option.some.inj q1
     have:=haft ed q2 q3;rwa[q4] at this
    refine wpOp_mono ?_ (h2 _ _ ho' ho1 a w frm pre (k1 f1 hui));rintro a' w' ⟨v,rfl,hF,hW⟩;obtain⟨q1,q2,q3,q4,q5,q6⟩:=common v hF
    have f3:listed.getD e3 false=false:=by
     cases h:listed.getD e3 false with
     |false=>rfl
     |true=>have:=c32 h;rw[hui] at this;cases this
    refine⟨q1,q2,q3,q4,q5,q6,fun h=>?_,fun _ h=>?_,fun _ _=>?_,fun h=>?_⟩
    ·rw[getD_set_ne false (fun e=>n12 e.symm),f1] at h;cases h
    ·rw[(qbE hil).2 (.inl rfl)] at h;cases h
    ·rw[slot_eq v some2];exact hW
    ·rw[getD_set_ne false n23,f3] at h;cases h
   ·by_cases i3:i=e3
    ·subst i3;obtain rfl:o3=o:=by rw[ho'] at ho3;exact(Option.some.inj ho3).symm
     have f2:listed.getD e2 false=true:=by
      obtain⟨o',q1,ed,q2,q3,q4⟩:=qdc h23;obtain rfl:o3=o':=by rw[ho'] at q1;exact Option.some.inj q1
      have:=haft ed q2 q3;rwa[q4] at this
     refine wpOp_mono ?_ (h3 _ _ ho' ho2 a w frm pre (k2 f2 hui));rintro a' w' ⟨v,rfl,hF,hW⟩;obtain⟨q1,q2,q3,q4,q5,q6⟩:=common v hF;refine⟨q1,q2,q3,q4,q5,q6,fun h=>?_,fun _ h=>?_,fun _ h=>?_,fun _=>hW⟩
     ·rw[getD_set_ne false (fun e=>n13 e.symm),c21 f2] at h;cases h
     ·rw[getD_set_ne false (fun e=>n23 e.symm),f2] at h;cases h
     ·rw[(qbE hil).2 (.inl rfl)] at h;cases h
    ·have hst:qky l e2 i=true→W0 w∨ ∃v,W1 v w:=fun hp=>by
      have f2:listed.getD e2 false=false:=by
       cases h:listed.getD e2 false with
       |false=>rfl
       |true=>
        obtain⟨o',q1,ed,q2,q3,q4⟩:=qdc hp;have:=gc _ _ q1 h ed q2 q3;rw[q4,hui] at this;cases this
      cases h:listed.getD e1 false with
      |false=>exact .inl (k0 h)
      |true=>exact .inr ⟨_,k1 h f2⟩
     refine wpOp_mono ?_ (hpure i o ho' i1 i2 i3 a w frm pre hst);rintro a' w' ⟨v,rfl,rfl,hF⟩;obtain⟨q1,q2,q3,q4,q5,q6⟩:=common v hF;refine⟨q1,q2,q3,q4,q5,q6,fun h=>?_,fun h h'=>?_,fun h h'=>?_,fun h=>?_⟩
     ·rw[getD_set_ne false i1] at h;exact k0 h
     ·rw[getD_set_ne false i1] at h;rw[getD_set_ne false i2] at h';rw[slot_ne v e1 o1 ho1 i1];exact k1 h h'
     ·rw[getD_set_ne false i2] at h;rw[getD_set_ne false i3] at h';rw[slot_ne v e2 o2 ho2 i2];exact k2 h h'
     ·rw[getD_set_ne false i3] at h;exact k3 h
 ·rintro listed a w ⟨g1,g2,g3,g5,g6,gc,k0,k1,k2,k3⟩ hr;have hal:=qiz hlow' listed (by simpa using g1) hr;refine hend a w (k3 (hal e3 (by simpa using hl3))) (fun i o ho hne=>g6 i o ho (hal i ?_) hne) (qlS a a0 l g2 g3 g5);have:=(List.getElem?_eq_some_iff.1 ho).1;simpa using this
 ·rw[show l.toArray.size=l.length by simp,Array.toList_replicate,qbf];exact Nat.le_trans (List.length_filter_le _ _) (by simp)
 ·have hn: ∀j,(Array.replicate l.toArray.size false).getD j false=false:=fun j=>by
   rw[Array.getD_eq_getD_getElem?,Array.getElem?_replicate];split<;>rfl
  refine⟨by simp,rfl,rfl,fun _ _=>rfl,fun i o ho hl=>?_,fun i o ho hl=>?_,fun _=>hstart,fun h=>?_,fun h=>?_,fun h=>?_⟩
  all_goals first|(rw[hn] at hl;cases hl)|(rw[hn] at h;cases h)
end
end
section
def qdP (Y:List UInt8) (p:Bool) (ds:List Nat) (bh:Nat) (t:List UInt8):Prop:=msc false Y=(ds++(msc p t).1,bh+(msc p t).2.1,(msc p t).2.2)
theorem qh9 (Y:List UInt8):qdP Y false [] 0 Y:=by unfold qdP;rw[List.nil_append,Nat.zero_add]
theorem qlj {Y:List UInt8} {p:Bool} {ds:List Nat} {bh:Nat} {c:UInt8} {t:List UInt8} (h:qdP Y p ds bh (c::t)) (hc:isD c=true):qdP Y p (ds++[dgt c]) (bh+if p then 1 else 0) t:=by
 unfold qdP at h⊢;rw[h,qeR _ _ _ hc,List.append_assoc,List.singleton_append];refine Prod.ext rfl (Prod.ext ?_ rfl);show bh+((msc p t).2.1+(if p then 1 else 0))=bh+(if p then 1 else 0)+(msc p t).2.1;generalize (if p then 1 else 0)=k;omega
theorem qmX {Y:List UInt8} {ds:List Nat} {bh:Nat} {t:List UInt8} (h:qdP Y false ds bh (46::t)):qdP Y true ds bh t:=by
 unfold qdP at h⊢;rw[h,qgd]
theorem qgP {Y:List UInt8} {p:Bool} {ds:List Nat} {bh:Nat} {t:List UInt8} (h:qdP Y p ds bh t) (ht:t=[]∨ ∃c u,t=c::u∧isD c=false∧ ¬(c=46∧p=false)):msc false Y=(ds,bh,t):=by
 unfold qdP at h;rw[h];rcases ht with rfl|⟨c,u,rfl,h1,h2⟩
 ·show(ds++[],bh+0,_)=_;rw[List.append_nil];rfl
 ·rw[qes _ _ _ h1 h2];show(ds++[],bh+0,_)=_;rw[List.append_nil];rfl
theorem OB.oth {w w':World} {B:Nat} {v:Value} {l:List Nat} (h:OB w B v l) (e: ∀g,B≤g→w'.heap[g]?=w.heap[g]?):OB w' B v l:=by
 refine⟨h.1,?_⟩;rcases h.2 with ⟨h1,h2⟩|⟨g,cap,cur,h1,h2,h3,h4,h5,h6,h7⟩
 ·exact .inl ⟨h1,h2⟩
 ·exact .inr ⟨g,cap,cur,h1,h2,(e g h2).trans h3,h4,h5,h6,h7⟩
structure SpW (w wx:World) (cv ov:Value) (bh e:Int) (ng:Bool) (ds:List Nat):Prop where
 r:DcB wx w.heap.size (.slice none 0 0) 0 0 false
 d:DcB wx (w.heap.size+1) cv bh e ng
 o:OB wx (w.heap.size+2) ov ds
 b:Below w.heap.size w wx
 z:w.heap.size+2≤wx.heap.size
def z83:Obj:= .cells #[.slice none 0 0,.int .i64 0,.int .i64 0,.bool false] 239
theorem SpW.start (w:World):SpW w ((w.alloc z83).alloc z83) (.slice none 0 0) (.slice none 0 0) 0 0 false []:=by
 have h0:=DcB.new w (.slice none 0 0) 0 0 false;have h1:=DcB.new (w.alloc z83) (.slice none 0 0) 0 0 false;have hs:(w.alloc z83).heap.size=w.heap.size+1:=by simp
 rw[hs] at h1;refine⟨?_,h1,⟨rfl,.inl ⟨rfl,rfl⟩⟩,((Below.refl _ _).alloc (Nat.le_refl _) _).alloc (by omega) _,by simp⟩;refine DcB.oth (show DcB (w.alloc z83) w.heap.size (.slice none 0 0) 0 0 false from h0) ?_;exact Below.heap_alloc _ _ _ (by omega)
theorem SpW.set {w wx:World} {cv ov cv2:Value} {bh e bh2 e2:Int} {ng ng2:Bool} {ds:List Nat} (h:SpW w wx cv ov bh e ng ds) (i:Nat) (u:Value) (hd:DcB (wx.setCell ⟨w.heap.size+1,i,none⟩ u) (w.heap.size+1) cv2 bh2 e2 ng2):
 SpW w (wx.setCell ⟨w.heap.size+1,i,none⟩ u) cv2 ov bh2 e2 ng2 ds:=
 ⟨h.r.oth (qaU _ (by show _≠w.heap.size+1;omega)),hd,h.o.oth (fun g hg=>qaU _ (by show _≠w.heap.size+1;omega)),h.b.setCell (p:=⟨w.heap.size+1,i,none⟩) (Nat.le_succ _) _,by simp[World.setCell];exact h.z⟩
theorem SpW.set0 {w wx:World} {cv ov:Value} {bh e:Int} {ng:Bool} {ds:List Nat} (h:SpW w wx cv ov bh e ng ds) (u:Value):SpW w (wx.setCell ⟨w.heap.size+1,0,none⟩ u) u ov bh e ng ds:=h.set 0 u (h.d.set0 u)
theorem SpW.set1 {w wx:World} {cv ov:Value} {bh e:Int} {ng:Bool} {ds:List Nat} (h:SpW w wx cv ov bh e ng ds) (u:Int):SpW w (wx.setCell ⟨w.heap.size+1,1,none⟩ (.int .i64 u)) cv ov u e ng ds:=h.set 1 _ (h.d.set1 u)
theorem SpW.set2 {w wx:World} {cv ov:Value} {bh e:Int} {ng:Bool} {ds:List Nat} (h:SpW w wx cv ov bh e ng ds) (u:Int):SpW w (wx.setCell ⟨w.heap.size+1,2,none⟩ (.int .i64 u)) cv ov bh u ng ds:=h.set 2 _ (h.d.set2 u)
theorem SpW.set3 {w wx:World} {cv ov:Value} {bh e:Int} {ng:Bool} {ds:List Nat} (h:SpW w wx cv ov bh e ng ds) (u:Bool):SpW w (wx.setCell ⟨w.heap.size+1,3,none⟩ (.bool u)) cv ov bh e u ds:=h.set 3 _ (h.d.set3 u)
theorem SpW.heap {w wx wy:World} {cv ov:Value} {bh e:Int} {ng:Bool} {ds:List Nat} (h:SpW w wx cv ov bh e ng ds) (hh:wy.heap=wx.heap) (hb:Below w.heap.size w wy):SpW w wy cv ov bh e ng ds:=
 ⟨h.r.oth (by rw[hh]),h.d.oth (by rw[hh]),h.o.oth (fun g _=>by rw[hh]),hb,by rw[hh];exact h.z⟩
theorem SpW.alloc {w wx:World} {cv ov:Value} {bh e:Int} {ng:Bool} {ds:List Nat} (h:SpW w wx cv ov bh e ng ds) (x:Obj):SpW w (wx.alloc x) cv ov bh e ng ds:=by
 have hz:=h.z;refine⟨h.r.oth (Below.heap_alloc _ _ _ (by omega)),h.d.oth (Below.heap_alloc _ _ _ (by omega)),World.ownsRow.alloc h.o x,h.b.alloc (by omega) x,by simp;omega⟩
theorem SpW.app {w wx wy:World} {cv ov ov2:Value} {bh e:Int} {ng:Bool} {ds ds2:List Nat} (h:SpW w wx cv ov bh e ng ds) (hb:Below (w.heap.size+2) wx wy) (ho:OB wy (w.heap.size+2) ov2 ds2) (hs:wx.heap.size≤wy.heap.size):SpW w wy cv ov2 bh e ng ds2:=
 ⟨h.r.oth (hb.block _ (by omega)),h.d.oth (hb.block _ (by omega)),ho,h.b.trans (hb.mono (by omega)),by have:=h.z;omega⟩
theorem qjq (R:Nat) (w:World):(Instr.fieldAt 239 (.pointer (some ⟨R,0,none⟩)) 0).run Tryz.prog w= .ok (.pointer (some ⟨R,0,none⟩)) w:=by
 go_simp
theorem qmS (c:UInt8) (h:isD c=true) (x y:Operand) (w:World):(do eqGuard .sub 5 x y (.int .u8 (c.toNat:Int)) (.int .u8 48);binOp .sub 5 (.int .u8 (c.toNat:Int)) (.int .u8 48):Sem Value).run Tryz.prog w= .ok (.int .u8 (dgt c:Int)) w:=by
 have:=(qaq c).1 h;go_simp
 have e:IntKind.u8.wrap ((c.toNat:Int) - 48)=(dgt c:Int):=by
  unfold dgt;rw[IntKind.wrap_u8];omega
 rw[e]
theorem qs3 (x:Nat) (h:x<256) (w:World):(convert 5 3 (.int .u8 (x:Int))).run Tryz.prog w= .ok (.int .i64 (x:Int)) w:=by
 go_simp;rw[IntKind.wrap_i64];omega
theorem qti (x:Int) (w:World):(Instr.buildSlice 237 1 #[(0,.int .i64 x)]).run Tryz.prog w= .ok (.slice (some ⟨w.heap.size,0,none⟩) 1 1) (w.alloc (.cells #[.int .i64 x] 3)):=by
 go_simp
theorem qkq {P:Program} {ops:Array Oper} {Q:Exit→Act→World→Prop} {a:Act} {w:World} {K:Act→World→Prop} {i:Nat} {o:Oper} {x y:Operand} {t:TypeId} {v p:Value} {w':World} (ho:ops[i]?=some o) (hm:Met ops a o) (hop:o.op= .store t x y) (hx:a.eval x=p) (hy:a.eval y=v)
 (hr:(Instr.storeAt t p v).run P w= .ok () w') (hk:K (a.put o.dst undef) w'):wpOp P ops Q i K a w:=by
 unfold Met at hm;unfold wpOp;simp only[ho,hm,if_true];left;unfold Oper.wp
 have:(execOp a.eval o).run P w= .ok .skip w':=by
  simp[execOp,hop,hx,hy,hr,Result.andThen]
 rw[this];exact hk
theorem qs2 {P:Program} {ops:Array Oper} {o:Oper} {a:Act} {w:World} {K:Act→World→Prop} {Q:Exit→Act→World→Prop} {E:Prop} (hgd:o.guard=none) (s x:Operand) (t:TypeId)
 (ho:o.op= .call {callee:= .builtin .append,args:=#[s,x],argTypes:=#[t,t]})
 (base:Nat) (e:TypeId) (z:Value) (bytes:Nat) (ht:P.underlying t=some (.slice e)) (hinfo:(P.info? e).map (fun i=>(i.zero,i.size,i.bytes))=some (some z,1,bytes)) (hzs:z.cells.size=1)
 (v:Value) (n:Nat) (xs:List Value) (hs:a.eval s=v) (u:Value) (news:List Value) (hx:a.eval x=u) (hown:w.ownsRow base e 1 v n xs) (hrow:Row w u news) (hone: ∀c∈news,c.oneCell'=true)
 (hb1:1≤bytes) (hbytes:(n+news.length)*bytes≤140737488355328) (hbase:base≤w.heap.size)
 (h: ∀v' w',w'.ownsRow base e 1 v' (n+news.length) (xs++news)→Below base w w'→w.heap.size≤w'.heap.size→K (a.put o.dst v') w'):
 if Region.wanted o (yielded ops a.tmps)=true then Oper.wp P o a w K Q else E:=by
 have hw:Region.wanted o (yielded ops a.tmps)=true:=by simp[Region.wanted,hgd]
 rw[if_pos hw];obtain⟨i,hi,hz0,hz1,hz2⟩:=info_parts hinfo;have hn:n+news.length≤(n+news.length)*bytes:=Nat.le_mul_of_pos_right _ hb1;rcases hrow with ⟨a',c',hac,rfl,rfl⟩|⟨b,off,cap,rfl,hlt,h1,h2,hc⟩
 ·cases a' with
  |none=>
   rw[hac rfl] at hx;have hrun:=run_append_owned_none (P:=P) (w:=w) base t o.type e i 1 ht hi v n xs hown;unfold Oper.wp;simp[execOp,ho,resolve,invoke,builtin,hs,hx,hrun,Result.andThen];exact h v w (by simpa using hown) (Below.refl _ _) (Nat.le_refl _)
  |some ad=>
   refine wp_append_own w s x t ho base e i z 1 bytes ht hi hz0 hz1 hz2 hzs (by decide) v n xs hs hown ad 0 c' [] hx (by simp) (by intro j c hj;simp at hj) hone (by unfold maxLen;simp at hn hbytes;omega) hbytes hbase ?_;intro v' w' hown' hg hnil;exact h v' w' hown' ((Below.refl base w).grown hg hbase (fun k e'=>(hown.lt k e').1)) hg.size
 ·refine wp_append_own w s x t ho base e i z 1 bytes ht hi hz0 hz1 hz2 hzs (by decide) v n xs hs hown ⟨b,off,none⟩ news.length cap news hx (by omega) ?_ hone (by unfold maxLen;omega) hbytes hbase ?_
  ·intro j c hj;obtain⟨hj',rfl⟩:=List.getElem?_eq_some_iff.1 hj;rw[show(⟨b,off,none⟩:Addr).add j=⟨b,off+j,none⟩ by simp[Addr.add]];exact hc j hj'
  ·intro v' w' hown' hg hnil;exact h v' w' hown' ((Below.refl base w).grown hg hbase (fun k e'=>(hown.lt k e').1)) hg.size
theorem qjM {P:Program} {ops:Array Oper} {Q:Exit→Act→World→Prop} {a:Act} {w:World} {K:Act→World→Prop} {i:Nat} {o:Oper} {x y:Operand} {t:TypeId} {u v r:Value} {w':World} (ho:ops[i]?=some o) (hm:Met ops a o) (hop:o.op= .index t x y) (hx:a.eval x=u) (hy:a.eval y=v)
 (hr:(Instr.index t u v).run P w= .ok r w') (hk:K (a.put o.dst r) w'):wpOp P ops Q i K a w:=by
 refine qax ho hm (v:=r) (w':=w') ?_ hk;simp[execOp,hop,hx,hy,hr,Result.andThen]
theorem qte (s:ByteArray) (i:Nat) (h:i<s.size) (n:Int) (hn:((s[i]'h).toNat:Int)=n) (w:World):(Instr.index 9 (.string s) (.int .i64 (i:Int))).run Tryz.prog w= .ok (.int .u8 n) w:=by
 subst hn;have h1:decide ((i:Int)<(s.size:Int))=true:=dT (by omega);go_simp
theorem qn9 {R:Nat} {v:Value} {w:World} {o:Oper} (h:w.cell? ⟨R,0,none⟩=some v):(execOp (fun _=> .pointer (some ⟨R,0,none⟩)) {o with op:= .load 237 (.tmp 61)}).run Tryz.prog w= .ok (.value v) w:=by
 go_simp
theorem qoq {R n c:Nat} {a:Option Addr} {v:Value} {w:World} (h:w.cell? ⟨R,0,none⟩=some v) (hf:w.frozen? ⟨R,0,none⟩=false):(Instr.storeAt 237 (.pointer (some ⟨R,0,none⟩)) (.slice a n c)).run Tryz.prog w= .ok () (w.setCell ⟨R,0,none⟩ (.slice a n c)):=by
 go_simp
theorem SpW.cells {w wx:World} {cv ov:Value} {bh e:Int} {ng:Bool} {ds:List Nat} (h:SpW w wx cv ov bh e ng ds):
 wx.cell? ⟨w.heap.size,0,none⟩=some (.slice none 0 0)∧wx.cell? ⟨w.heap.size,1,none⟩=some (.int .i64 0)∧wx.cell? ⟨w.heap.size,2,none⟩=some (.int .i64 0)∧wx.cell? ⟨w.heap.size,3,none⟩=some (.bool false)∧
 wx.frozen? ⟨w.heap.size,0,none⟩=false∧wx.frozen? ⟨w.heap.size,1,none⟩=false∧wx.frozen? ⟨w.heap.size,2,none⟩=false∧wx.frozen? ⟨w.heap.size,3,none⟩=false∧
 wx.cell? ⟨w.heap.size+1,0,none⟩=some cv∧wx.cell? ⟨w.heap.size+1,1,none⟩=some (.int .i64 bh)∧wx.cell? ⟨w.heap.size+1,2,none⟩=some (.int .i64 e)∧wx.cell? ⟨w.heap.size+1,3,none⟩=some (.bool ng):=
 ⟨h.r.c0,h.r.c1,h.r.c2,h.r.c3,h.r.fz 0,h.r.fz 1,h.r.fz 2,h.r.fz 3,h.d.c0,h.d.c1,h.d.c2,h.d.c3⟩
end
section
def qcf (l:List UInt8):List Nat:=(msc false (sgd l)).1
def qnt (l:List UInt8):Nat:=(msc false (sgd l)).2.1
def qvC (l:List UInt8) (w:World) (e:Ending) (w':World):Prop:=
 Below w.heap.size w w'∧((qau l=true∧ ∃a c,e= .returned (.tuple #[.agg #[.slice a (qcf l).length c,.int .i64 (qnt l:Int),.int .i64 (qfw (tlL l)),.bool (ngL l)],.bool true])∧qbI w' a c (qcf l))∨
  (qau l=false∧ ∃a n c b x g,e= .returned (.tuple #[.agg #[.slice a n c,.int .i64 b,.int .i64 x,.bool g],.bool false])))
theorem SpW.ret {w wx:World} {cv:Value} {bh e:Int} {ng:Bool} {ds:List Nat} (h:SpW w wx cv cv bh e ng ds):
 Below w.heap.size w ((((wx.setCell ⟨w.heap.size,0,none⟩ cv).setCell ⟨w.heap.size,1,none⟩ (.int .i64 bh)).setCell ⟨w.heap.size,2,none⟩ (.int .i64 e)).setCell ⟨w.heap.size,3,none⟩ (.bool ng))∧
 OB ((((wx.setCell ⟨w.heap.size,0,none⟩ cv).setCell ⟨w.heap.size,1,none⟩ (.int .i64 bh)).setCell ⟨w.heap.size,2,none⟩ (.int .i64 e)).setCell ⟨w.heap.size,3,none⟩ (.bool ng)) (w.heap.size+2) cv ds∧
 DcB ((((wx.setCell ⟨w.heap.size,0,none⟩ cv).setCell ⟨w.heap.size,1,none⟩ (.int .i64 bh)).setCell ⟨w.heap.size,2,none⟩ (.int .i64 e)).setCell ⟨w.heap.size,3,none⟩ (.bool ng)) w.heap.size cv bh e ng:=by
 refine⟨(((h.b.setCell (p:=⟨w.heap.size,0,none⟩) (Nat.le_refl _) _).setCell (p:=⟨w.heap.size,1,none⟩) (Nat.le_refl _) _).setCell (p:=⟨w.heap.size,2,none⟩) (Nat.le_refl _) _).setCell (p:=⟨w.heap.size,3,none⟩) (Nat.le_refl _) _,?_,(((h.r.set0 cv).set1 bh).set2 e).set3 ng⟩;refine h.o.oth fun g hg=>?_
 have hne: ∀(A:World) (i:Nat) (v:Value),(A.setCell ⟨w.heap.size,i,none⟩ v).heap[g]?=A.heap[g]?:=fun A i v=>qaU v (by show g≠w.heap.size;omega)
 rw[hne,hne,hne,hne]
theorem qa4 {fn:Func} {p u:Tmp} (h:fn.results=#[.cell p 239,.tmp u]) (tmps:Array Value) (w:World) (R:Nat) (v:Value) (b e:Int) (ng:Bool) (hp:tmps.getD p undef= .pointer (some ⟨R,0,none⟩)) (hd:DcB w R v b e ng):
 (results fn tmps).run Tryz.prog w= .ok (.tuple #[.agg #[v,.int .i64 b,.int .i64 e,.bool ng],tmps.getD u undef]) w:=by
 have c0:=hd.c0;have c1:=hd.c1;have c2:=hd.c2;have c3:=hd.c3;rw[results_cell_tmp h,hp];go_simp
theorem qfF (c:UInt8) (u:List UInt8):qdL (c::u)=((c==101||c==69)&&(decide (1≤qaz (sgd u))&&decide (qaz (sgd u)≤5)&&(qaz (sgd u)==(sgd u).length))):=rfl
theorem qnG (V:List UInt8) (j:Nat) (hj:j<V.length) (h:isD (V.getD j 0)=false):(qaz V==V.length)=false:=by
 rw[beq_eq_false_iff_ne];intro e;have:=qdt V e (V.getD j 0) (by rw[gZd,gZq hj];exact List.getElem_mem _);rw[h] at this;cases this
theorem qkT (V:List UInt8) (h: ∀c∈V,isD c=true):qaz V=V.length:=by
 have:=qeH V [] h (fun c hc=>by cases hc);rwa[List.append_nil] at this
theorem qnk (l:List UInt8) (c:UInt8):qas (l++[c])=qas l*10+(c.toNat - 48):=by unfold qas;rw[List.foldl_append];rfl
theorem qfN (l:List UInt8) (k:Nat) (h:k<l.length):l.take (k+1)=l.take k++[l.getD k 0]:=by
 rw[List.take_add_one,gZq h,gZd,gZq h];rfl
theorem qcp (l:List UInt8):qau l=(((qcf l).length !=0)&&qdL (msc false (sgd l)).2.2)∧tlL l=(msc false (sgd l)).2.2:=by
 obtain⟨h1,h2⟩:=qrQ (sgd l);unfold qau qcf tlL;rw[h1,h2];exact⟨rfl,rfl⟩
theorem qkv (s:ByteArray) (hs:s.size≤1300) (w:World):Calls Tryz.prog 192 #[.string s] w (qvC s.data.toList w):=by
 obtain⟨l,hl⟩: ∃l,Hid (l=s.data.toList):=⟨_,Lh rfl⟩;have hlen:Hid (l.length=s.size):=Lh (by rw[hl.out];exact qat s);have hbt:Hid (∀i,bt s i=l.getD i 0):=Lh (fun i=>by unfold bt;rw[hl.out]);rw[←hl.out];obtain⟨Y,hY⟩: ∃Y,Hid (Y=sgd l):=⟨_,Lh rfl⟩;obtain⟨ng,hng⟩: ∃ng,Hid (ng=ngL l):=⟨_,Lh rfl⟩;have hS0:=SpW.start w;have hsplit:=Lh (qc9 l)
 obtain⟨sb,o,hsb⟩: ∃(sb:Bool) (o:Nat),Hid (l.drop o=Y∧(sb=false→o=0∧ng=false∧(l.getD 0 0≠43∧l.getD 0 0≠45))∧(sb=true→o=1∧0<l.length∧((ng=false∧l.getD 0 0=43)∨(ng=true∧l.getD 0 0=45)))):=by
  rcases hsplit.out with ⟨h1,h2,h3⟩|⟨c,t,h1,h2,h3⟩
  ·exact⟨false,0,Lh ⟨by rw[hY.out,h1,List.drop_zero],fun _=>⟨rfl,by rw[hng.out,h2],h3⟩,fun h=>by cases h⟩⟩
  ·refine⟨true,1,Lh ⟨by rw[hY.out,h2,h1];rfl,fun h=>(by cases h),fun _=>⟨rfl,by rw[h1];exact Nat.succ_pos _,?_⟩⟩⟩;rcases h3 with ⟨h4,h5⟩|⟨h4,h5⟩
   ·exact .inl ⟨by rw[hng.out,h4],by rw[h1];exact h5⟩
   ·exact .inr ⟨by rw[hng.out,h4],by rw[h1];exact h5⟩
 clear hsplit;go_enter Tryz.func192,Tryz.ntmps192;go_upto_region 3 with (fail)
 replace hS0:=Lh hS0;go_cut [23] (fun s23 wx=>s23= .bool sb∧Hid (SpW w wx (.slice none 0 0) (.slice none 0 0) 0 0 false []))
 case first=>
  by_cases h0:0<s.size
  ·have u1:decide ((0:Int)<(s.size:Int))=true:=dT (by omega);have u1':decide (0<s.size)=true:=dT h0;have tE: ¬s=ByteArray.empty:=fun e=>by rw[e] at h0;exact absurd h0 (by decide)
   obtain⟨c,hc,hB⟩:=qbG s 0 h0;have hc2:c=l.getD 0 0:=by rw[←hbt.out];exact hc.out.symm
   cases sb with
   |false=>
    obtain⟨-,-,h3,h4⟩:=hsb.out.2.1 rfl;rw[←hc2] at h3 h4;have v1:=qaJ c 43 43 rfl h3;have v2:=qaJ c 45 45 rfl h4;clear hc hc2 h3 h4;go_wp2_with fail;go_meet;exact⟨rfl,hS0⟩
   |true=>
    obtain⟨-,-,h3⟩:=hsb.out.2.2 rfl;rw[←hc2] at h3;clear hc hc2;rcases h3 with ⟨-,rfl⟩|⟨-,rfl⟩
    ·rw[show(((43:UInt8).toNat:Int))=43 from rfl] at hB;go_wp2_with fail;go_meet;exact⟨rfl,hS0⟩
    ·rw[show(((45:UInt8).toNat:Int))=45 from rfl] at hB;go_wp2_with fail;go_meet;exact⟨rfl,hS0⟩
  ·have u1:decide ((0:Int)<(s.size:Int))=false:=dF (by omega);have u1':decide (0<s.size)=false:=dF h0
   cases sb with
   |false=>
    go_wp2_with fail;go_meet;exact⟨rfl,hS0⟩
   |true=>have:=(hsb.out.2.2 rfl).2.1;have:=hlen.out;omega
 case rest=>
  obtain⟨rfl,hS1⟩:=hcut;clear hS0;go_upto_if 23 with (fail)
  go_cut [5] (fun s5 wx=>s5= .int .i64 (o:Int)∧Hid (SpW w wx (.slice none 0 0) (.slice none 0 0) 0 0 ng []))
  case first=>
   cases sb with
   |false=>
    obtain⟨rfl,rfl,-⟩:=hsb.out.2.1 rfl;go_wp2_with fail;go_meet;exact⟨rfl,hS1⟩
   |true=>
    obtain⟨rfl,h0,h3⟩:=hsb.out.2.2 rfl;have h0':0<s.size:=by have:=hlen.out;omega
    obtain⟨c,hc,hB⟩:=qbG s 0 h0';have hc2:c=l.getD 0 0:=by rw[←hbt.out];exact hc.out.symm
    rw[←hc2] at h3;have c3:=hS1.out.d.c3;have fz:=hS1.out.d.fz 3;have hst:=Lh (hS1.out.set3 ng);clear hc hc2;rcases h3 with ⟨rfl,rfl⟩|⟨rfl,rfl⟩
    ·rw[show(((43:UInt8).toNat:Int))=43 from rfl] at hB;go_wp2_with fail;go_meet;exact⟨rfl,hst⟩
    ·rw[show(((45:UInt8).toNat:Int))=45 from rfl] at hB;go_wp2_with fail;go_meet;exact⟨rfl,hst⟩
  case rest=>
   obtain⟨rfl,hS2⟩:=hcut;clear hS1;have hoY:Hid (l.drop o=Y):=Lh hsb.out.1
   have ho1:o≤s.size:=by
    have:=hlen.out
    cases sb with
    |false=>have:=(hsb.out.2.1 rfl).1;omega
    |true=>have:=(hsb.out.2.2 rfl).1;have:=(hsb.out.2.2 rfl).2.1;omega
   clear hsb;go_upto_block 0 with (fail)
   go_cut [5] (fun s5 wx=> ∃(i:Nat) (v:Value) (ds:List Nat) (bh:Nat),s5= .int .i64 (i:Int)∧i≤s.size∧bh≤1300∧ds.length≤1300∧Hid (SpW w wx v v (bh:Int) 0 ng ds)∧Hid (msc false Y=(ds,bh,l.drop i)))
   case first=>
    go_wp2_with fail;go_loopg [5,6] (s.size+1) (fun gk s5 s6 wx=> ∃(i:Nat) (p:Bool) (v:Value) (ds:List Nat) (bh:Nat),s5= .int .i64 (i:Int)∧s6= .bool p∧i≤s.size∧s.size - i<gk∧bh≤i∧ds.length≤i∧Hid (SpW w wx v v (bh:Int) 0 ng ds)∧Hid (qdP Y p ds bh (l.drop i)))
    case atStart=>exact⟨o,false,_,[],0,rfl,rfl,ho1,by omega,Nat.zero_le _,Nat.zero_le _,hS2,Lh (by rw[hoY.out];exact qh9 Y)⟩
    case round=>
     clear hS2;obtain⟨i,p,v,ds,bh,rfl,rfl,hi,hgk,hbh,hds,hS,hM⟩:=hrel
     by_cases hlt:i<s.size
     ·have u1:decide ((i:Int)<(s.size:Int))=true:=dT (by omega);have u1':decide (i<s.size)=true:=dT hlt;obtain⟨c,hc,hB⟩:=qbG s i hlt
      have hdrop:Hid (l.drop i=c::l.drop (i+1)):=Lh (by
       rw[qaf l i (by rw[hlen.out];exact hlt),←hbt.out,hc.out])
      have hMc:=hM.out;rw[hdrop.out] at hMc
      by_cases hd:isD c=true
      ·have hM2:=Lh (qlj hMc hd);have hcd:=(qaq _).1 hd;have v3:decide ((48:Int)≤(c.toNat:Int))=true:=dT (by omega);have v4:decide ((c.toNat:Int)≤57)=true:=dT (by omega);have v3':decide (48≤c.toNat)=true:=dT (by omega);have v4':decide (c.toNat≤57)=true:=dT (by omega);have v5:=qaJ c 46 46 rfl (fun e=>by subst e;exact absurd hd (by decide));have hdh:=Lh hd;have hdg:Hid (dgt c<256):=Lh (by unfold dgt;omega);clear hM hMc hc hd hdrop;go_upto_region 10 with (fail)
       refine qeG 7 8 10 (fun kq x=>match kq with
        |0=>x= .pointer (some ⟨w.heap.size+1,0,none⟩)
        |1=>x=v
        |2=>x= .string s
        |3=>x= .int .i64 (i:Int)
        |4=>x= .int .u8 (c.toNat:Int)
        |5=>x= .int .u8 (dgt c:Int)
        |6=>x= .int .i64 (dgt c:Int)
        |9=>x= .pointer (some ⟨w.heap.size+1,0,none⟩)
        |_=>True)
        (fun W=>SpW w W v v (bh:Int) 0 ng ds)
        (fun x W=> ∃nb,x= .slice (some ⟨nb,0,none⟩) 1 1∧nb<W.heap.size∧W.cell? ⟨nb,0,none⟩=some (.int .i64 (dgt c:Int))∧SpW w W v v (bh:Int) 0 ng ds)
        (fun x W=>SpW w W v x (bh:Int) 0 ng (ds++[dgt c]))
        (fun W=> ∃x,SpW w W x x (bh:Int) 0 ng (ds++[dgt c]))
        (by kernel_rfl) (by kernel_rfl) (by kernel_rfl) (by kernel_rfl) (by kernel_rfl) (by kernel_rfl) (by decide) (by decide) (by decide) (by decide) (by decide) (by decide) ?_ ?_ ?_ ?_ ?_ (by kernel_rfl) (by kernel_rfl) ?_
       ·exact hS.out.heap rfl (Below.drew hS.out.b)
       ·intro kq;rcases kq with _|_|_|_|_|_|_|_|_|_|_|kq
        all_goals intro ox hox n1 n2 n3 a wa hfrm hpre hst
        all_goals cases hox
        all_goals have q0:a.tmps.getD 0 undef= .string s:=(hfrm 0 (by decide+kernel)).trans rfl
        all_goals have q4:a.tmps.getD 4 undef= .pointer (some ⟨w.heap.size+1,0,none⟩):=(hfrm 4 (by decide+kernel)).trans rfl
        all_goals have q5:a.tmps.getD 5 undef= .int .i64 (i:Int):=(hfrm 5 (by decide+kernel)).trans rfl
        all_goals clear hfrm
        ·exact qft rfl (qak rfl) rfl q4 (qjq _ wa) ⟨_,rfl,rfl,rfl⟩
        ·have g:a.tmps.getD 61 undef= .pointer (some ⟨w.heap.size+1,0,none⟩):=hpre ⟨0,.data⟩ (by simp) rfl _ rfl (by simp)
         have hW:SpW w wa v v (bh:Int) 0 ng ds:=by
          rcases hst (by kernel_rfl)with h|⟨_,_,_,_,_,h⟩
          ·exact h
          ·exact h
         have c0:=hW.d.c0;refine qdj rfl (qak rfl) rfl g ?_ ⟨_,rfl,rfl,rfl⟩;exact qn9 c0
        ·exact qaH rfl (qak rfl) (.inl rfl) ⟨_,rfl,rfl,q0⟩
        ·exact qaH rfl (qak rfl) (.inl rfl) ⟨_,rfl,rfl,q5⟩
        ·have g1:a.tmps.getD 63 undef= .string s:=hpre ⟨2,.data⟩ (by simp) rfl _ rfl (by simp);have g2:a.tmps.getD 64 undef= .int .i64 (i:Int):=hpre ⟨3,.data⟩ (by simp) rfl _ rfl (by simp);refine qjM rfl (qak rfl) rfl g1 g2 ?_ ⟨_,rfl,rfl,rfl⟩;exact qte s i hlt _ hB wa
        ·have g:a.tmps.getD 65 undef= .int .u8 (c.toNat:Int):=hpre ⟨4,.data⟩ (by simp) rfl _ rfl (by simp);exact qbn rfl (qak rfl) rfl g rfl (qmS c hdh.out _ _ wa) ⟨_,rfl,rfl,rfl⟩
        ·have g:a.tmps.getD 66 undef= .int .u8 (dgt c:Int):=hpre ⟨5,.data⟩ (by simp) rfl _ rfl (by simp);refine qm6 rfl (qak rfl) rfl (v:= .int .i64 (dgt c:Int)) (w':=wa) ?_ ⟨_,rfl,rfl,rfl⟩;rw[show a.eval (.tmp 66)= .int .u8 (dgt c:Int)from g];exact qs3 (dgt c) hdg.out wa
        ·exact absurd rfl n1
        ·exact absurd rfl n2
        ·exact qft rfl (qak rfl) rfl q4 (qjq _ wa) ⟨_,rfl,rfl,rfl⟩
        ·exact absurd rfl n3
       ·intro ox hox a wa hfrm hpre hW;cases hox;have g:a.tmps.getD 67 undef= .int .i64 (dgt c:Int):=hpre ⟨6,.data⟩ (by simp) rfl _ rfl (by simp);refine qid rfl (qak rfl) rfl g (qti _ wa) ⟨_,rfl,trivial,wa.heap.size,rfl,by simp,?_,hW.alloc _⟩;rw[Lib.cell_of_heap (Array.getElem?_push_size)];rfl
       ·intro ox o1 hox ho1 a wa hfrm hpre hW;cases hox;cases ho1;obtain⟨nb,e68,hnb,hcl,hW⟩:=hW;have g:a.tmps.getD 62 undef=v:=hpre ⟨1,.data⟩ (by simp) rfl _ rfl (by simp);have e68':a.tmps.getD 68 undef= .slice (some ⟨nb,0,none⟩) 1 1:=e68;refine qdW rfl (qak rfl) (qs2 rfl (.tmp 62) (.tmp 68) 237 rfl (w.heap.size+2) 3 (.int .i64 0) 8 Tryz.underlying237 info3 rfl v ds.length (ds.map encI) g _ [.int .i64 (dgt c:Int)] e68' hW.o ?_ ?_ (by decide) ?_ hW.z ?_)
        ·exact .inr ⟨nb,0,1,rfl,hnb,Nat.le_refl _,by decide,fun j hj=>by
          obtain rfl:j=0:=by simpa using hj
          exact hcl⟩
        ·intro x hx;rw[List.mem_singleton] at hx;subst hx;rfl
        ·show(ds.length+1)*8≤_;omega
        ·intro v' w' h1 h2 h3;refine⟨v',rfl,trivial,hW.app h2 ?_ h3⟩;unfold OB;rw[List.length_append,List.map_append];exact h1
       ·intro ox o2 hox ho2 a wa hfrm hpre hW;cases hox;cases ho2;have g:a.tmps.getD 70 undef= .pointer (some ⟨w.heap.size+1,0,none⟩):=hpre ⟨9,.data⟩ (by simp) rfl _ rfl (by simp);have c0:=hW.d.c0;have fz:=hW.d.fz 0;obtain⟨a9,c9,e9⟩:=hW.o.shape;have e9':a.tmps.getD 69 undef= .slice a9 (ds++[dgt c]).length c9:=e9;refine qkq rfl (qak rfl) rfl g e9' (qoq c0 fz) ?_;refine⟨undef,rfl,trivial,.slice a9 (ds++[dgt c]).length c9,?_⟩;have e10:SpW w wa v (.slice a9 (ds++[dgt c]).length c9) (bh:Int) 0 ng (ds++[dgt c]):=by rw[←e9];exact hW
        exact e10.set0 _
       ·intro a wa hW hall ha;obtain⟨x,hW⟩:=hW;have f0:a.tmps.getD 61 undef= .pointer (some ⟨w.heap.size+1,0,none⟩):=hall 0 _ rfl (by simp);have f1:a.tmps.getD 62 undef=v:=hall 1 _ rfl (by simp);have f2:a.tmps.getD 63 undef= .string s:=hall 2 _ rfl (by simp);have f3:a.tmps.getD 64 undef= .int .i64 (i:Int):=hall 3 _ rfl (by simp);have f4:a.tmps.getD 65 undef= .int .u8 (c.toNat:Int):=hall 4 _ rfl (by simp);have f5:a.tmps.getD 66 undef= .int .u8 (dgt c:Int):=hall 5 _ rfl (by simp);have f6:a.tmps.getD 67 undef= .int .i64 (dgt c:Int):=hall 6 _ rfl (by simp);obtain⟨z7,f7⟩: ∃z,a.tmps.getD 68 undef=z:=⟨_,rfl⟩;obtain⟨z8,f8⟩: ∃z,a.tmps.getD 69 undef=z:=⟨_,rfl⟩;have f9:a.tmps.getD 70 undef= .pointer (some ⟨w.heap.size+1,0,none⟩):=hall 9 _ rfl (by simp);simp only[List.foldl,qav,f0,f1,f2,f3,f4,f5,f6,f7,f8,f9] at ha;clear hall f0 f1 f2 f3 f4 f5 f6 f7 f8 f9;subst ha;simp only[Act.put,List.setIfInBounds_toArray,List.set_cons_succ,List.set_cons_zero];have c1:=hW.d.c1;have fz1:=hW.d.fz 1;have hWh:=Lh hW;clear hW hS;have hl1:(ds++[dgt c]).length≤i+1:=by rw[List.length_append,List.length_singleton];omega
        cases p with
        |false=>
         have hM3:Hid (qdP Y false (ds++[dgt c]) bh (l.drop (i+1))):=hM2;clear hM2;go_wp2_with fail;go_roundg (gk - 1)
         case measure=>omega
         case rel=>exact⟨i+1,false,x,ds++[dgt c],bh,by go_num,rfl,by omega,by omega,by omega,hl1,hWh,hM3⟩
        |true=>
         have hM3:Hid (qdP Y true (ds++[dgt c]) (bh+1) (l.drop (i+1))):=hM2;have hW3:=Lh (hWh.out.set1 ((bh:Int)+1));clear hM2 hWh;go_wp2_with fail;go_roundg (gk - 1)
         case measure=>omega
         case rel=>exact⟨i+1,true,x,ds++[dgt c],bh+1,by go_num,rfl,by omega,by omega,by omega,hl1,hW3,hM3⟩
      ·have hd':isD c=false:=by simpa using hd
       have hcd: ¬(48≤c.toNat∧c.toNat≤57):=fun h=>hd ((qaq _).2 h)
       have hE: ¬(c=46∧p=false)→Hid (msc false Y=(ds,bh,l.drop i)):=fun h=>Lh (by
        have:=qgP hM.out (.inr ⟨c,_,hdrop.out,hd',h⟩)
        exact this)
       by_cases h46:c=46
       ·subst h46;have v3:decide ((48:Int)≤(46:Int))=false:=rfl
        cases p with
        |false=>
         have hM2:=Lh (qmX hMc);rw[show(((46:UInt8).toNat:Int))=46 from rfl] at hB;clear hM hMc hc hd hd' hdrop hcd hE;go_wp2_with fail;go_roundg (gk - 1)
         case measure=>omega
         case rel=>exact⟨i+1,true,v,ds,bh,by go_num,rfl,by omega,by omega,by omega,by omega,hS,hM2⟩
        |true=>
         have hE2:=hE (fun h=>by cases h.2);rw[show(((46:UInt8).toNat:Int))=46 from rfl] at hB;clear hM hMc hc hd hd' hdrop hcd hE;go_wp2_with fail;go_meet;exact⟨i,v,ds,bh,rfl,by omega,by omega,by omega,hS,hE2⟩
       ·have hE2:=hE (fun h=>h46 h.1);have v5:=qaJ c 46 46 rfl h46
        by_cases h48:48≤c.toNat
        ·have v3:decide ((48:Int)≤(c.toNat:Int))=true:=dT (by omega);have v4:decide ((c.toNat:Int)≤57)=false:=dF (by omega);have v3':decide (48≤c.toNat)=true:=dT (by omega);have v4':decide (c.toNat≤57)=false:=dF (by omega);clear hM hMc hc hd hd' hdrop hcd hE h46 h48;go_wp2_with fail;go_meet;exact⟨i,v,ds,bh,rfl,by omega,by omega,by omega,hS,hE2⟩
        ·have v3:decide ((48:Int)≤(c.toNat:Int))=false:=dF (by omega);have v3':decide (48≤c.toNat)=false:=dF (by omega);clear hM hMc hc hd hd' hdrop hcd hE h46 h48;go_wp2_with fail;go_meet;exact⟨i,v,ds,bh,rfl,by omega,by omega,by omega,hS,hE2⟩
     ·obtain rfl:i=s.size:=by omega
      have u1:decide ((s.size:Int)<(s.size:Int))=false:=dF (by omega);have u1':decide (s.size<s.size)=false:=dF (by omega);have hE2:Hid (msc false Y=(ds,bh,l.drop s.size)):=Lh (qgP hM.out (.inl (List.drop_of_length_le (by rw[hlen.out];exact Nat.le_refl _))));clear hM;go_wp2_with fail;go_meet;exact⟨s.size,v,ds,bh,rfl,by omega,by omega,by omega,hS,hE2⟩
   case rest=>
    clear hS2;obtain⟨i,v,ds,bh,rfl,hi,hbh,hdl,hS,hM⟩:=hcut;obtain⟨av,cv,rfl⟩:=hS.out.o.shape
    have hR:Hid (qau l=((ds.length !=0)&&qdL (l.drop i))):=Lh (by
     rw[(qcp l).1];unfold qcf;rw[←hY.out,hM.out])
    have hT:Hid (tlL l=l.drop i):=Lh (by rw[(qcp l).2,←hY.out,hM.out]);have hD:Hid (qcf l=ds):=Lh (by unfold qcf;rw[←hY.out,hM.out]);have hH:Hid (qnt l=bh):=Lh (by unfold qnt;rw[←hY.out,hM.out]);clear hM;have hX: ∀{cv e W},SpW w W (.slice av ds.length cv) (.slice av ds.length cv) (bh:Int) e ng ds→True:=fun _=>trivial
    obtain⟨r0,r1,r2,r3,f0,f1,f2,f3,d0,d1,d2,d3⟩:=hS.out.cells;have hret:=Lh hS.out.ret
    by_cases hz:ds.length=0
    ·have hF:Hid (qau l=false):=Lh (by rw[hR.out,hz];rfl);rw[hz] at d0 hret;clear hS hR hT hD hH hX;go_wp2_with fail;refine bodyPost_ret (qa4 rfl _ _ _ _ _ _ _ rfl hret.out.2.2) rfl ?_;exact⟨hret.out.1,.inr ⟨hF.out,_,_,_,_,_,_,rfl⟩⟩
    ·have z1:((ds.length:Int)==0)=false:=beq_eq_false_iff_ne.2 (by omega)
     have hR2:Hid (qau l=qdL (l.drop i)):=Lh (by
      rw[hR.out];have:(ds.length !=0)=true:=by simpa using hz
      rw[this,Bool.true_and])
     clear hR hX
     by_cases he:i=s.size
     ·subst he;have e1:l.drop s.size=[]:=List.drop_of_length_le (by rw[hlen.out];exact Nat.le_refl _);have hF:Hid (qau l=true∧qfw (tlL l)=0):=Lh ⟨by rw[hR2.out,e1];rfl,by rw[hT.out,e1];rfl⟩;have e2:((s.size:Int)==(s.size:Int))=true:=by simp
      clear hS hR2 hT e1;go_wp2_with fail;refine bodyPost_ret (qa4 rfl _ _ _ _ _ _ _ rfl hret.out.2.2) rfl ?_;refine⟨hret.out.1,.inl ⟨hF.out.1,av,cv,?_,?_⟩⟩
      ·rw[hF.out.2,hD.out,hH.out,hng.out];rfl
      ·rw[hD.out];exact hret.out.2.1.nrow
     ·have hlt:i<s.size:=by omega
      have e2:((i:Int)==(s.size:Int))=false:=beq_eq_false_iff_ne.2 (by omega);obtain⟨c,hc,hB⟩:=qbG s i hlt
      have hdrop:l.drop i=c::l.drop (i+1):=by
       rw[qaf l i (by rw[hlen.out];exact hlt),←hbt.out,hc.out]
      obtain⟨u,hu⟩: ∃u,Hid (u=l.drop (i+1)):=⟨_,Lh rfl⟩;rw[←hu.out] at hdrop;rw[hdrop,qfF] at hR2;rw[hdrop] at hT;clear hdrop
      by_cases hce:c=101∨c=69
      ·have hR3:Hid (qau l=(decide (1≤qaz (sgd u))&&decide (qaz (sgd u)≤5)&&(qaz (sgd u)==(sgd u).length))):=Lh (by
        rw[hR2.out]
        rcases hce with rfl|rfl<;>rfl)
       clear hR2;go_upto_region 18 with (fail)
       go_cut [97] (fun s97 wx=>s97= .bool false∧wc=wx)
       case first=>
        clear hR3 hS hT hD hH hu hret;have hc0:Hid (c=101∨c=69):=Lh hce;clear hc hce;rcases hc0.out with rfl|rfl
        ·rw[show(((101:UInt8).toNat:Int))=101 from rfl] at hB;go_wp2_with fail;go_meet;exact⟨rfl,rfl⟩
        ·rw[show(((69:UInt8).toNat:Int))=69 from rfl] at hB;go_wp2_with fail;go_meet;exact⟨rfl,rfl⟩
       case rest=>
        obtain⟨rfl,rfl⟩:=hcut;clear hB hc hce;obtain⟨less,hless⟩: ∃b,Hid (b=ngL u):=⟨_,Lh rfl⟩;obtain⟨V,hV⟩: ∃V,Hid (V=sgd u):=⟨_,Lh rfl⟩;have hul:Hid (u.length+(i+1)=s.size):=Lh (by rw[hu.out,List.length_drop,hlen.out];omega);have hub:Hid (∀j,l.getD (i+1+j) 0=u.getD j 0):=Lh (fun j=>by rw[hu.out,gZd,gZd,List.getElem?_drop])
        obtain⟨sb,b2,hsb⟩: ∃(sb:Bool) (b2:Nat),Hid (V.length+(i+1+b2)=s.size∧(∀j,l.getD (i+1+b2+j) 0=V.getD j 0)∧(sb=false→b2=0∧less=false∧(u.getD 0 0≠43∧u.getD 0 0≠45))∧(sb=true→b2=1∧0<u.length∧((less=false∧u.getD 0 0=43)∨(less=true∧u.getD 0 0=45)))):=by
         have hul':=hul.out;rcases qc9 u with ⟨h1,h2,h3⟩|⟨c',t,h1,h2,h3⟩
         ·refine⟨false,0,Lh ⟨by rw[hV.out,h1];omega,fun j=>by rw[hV.out,h1];exact hub.out j,fun _=>⟨rfl,by rw[hless.out,h2],h3⟩,fun h=>(by cases h)⟩⟩
         ·have hlt2:u.length=t.length+1:=by rw[h1];rfl
          refine⟨true,1,Lh ⟨by rw[hV.out,h2];omega,fun j=>?_,fun h=>(by cases h),fun _=>⟨rfl,by omega,?_⟩⟩⟩
          ·rw[hV.out,h2,show i+1+1+j=i+1+(j+1) by omega,hub.out,h1];rfl
          ·rcases h3 with ⟨h4,h5⟩|⟨h4,h5⟩
           ·exact .inl ⟨by rw[hless.out,h4],by rw[h1];exact h5⟩
           ·exact .inr ⟨by rw[hless.out,h4],by rw[h1];exact h5⟩
        have hEx:Hid (qfw (tlL l)=if less then -(qas V:Int) else (qas V:Int)):=Lh (by rw[hT.out,hless.out,hV.out];rfl);have hR4:Hid (qau l=(decide (1≤qaz V)&&decide (qaz V≤5)&&(qaz V==V.length))):=Lh (by rw[hR3.out,hV.out]);clear hR3 hT;go_upto_region 21 with (fail)
        go_cut [7] (fun s7 wx=>s7= .bool less∧wc=wx)
        case first=>as_aux_lemma=>
         clear hret hS hD hH hEx hR4;have hu0:=hub.out 0;rw[Nat.add_zero] at hu0
         by_cases h0:i+1<s.size
         ·have u1:decide ((i:Int)+1<(s.size:Int))=true:=dT (by omega);obtain⟨c2,hc2,hB⟩:=qbG s (i+1) h0;have hc3:c2=u.getD 0 0:=by rw[←hu0,←hbt.out];exact hc2.out.symm
          have hx:=hsb.out;rw[←hc3] at hx
          cases sb with
          |false=>
           obtain⟨-,e1,-,h4⟩:=hx.2.2.1 rfl;have v2:=qaJ c2 45 45 rfl h4;subst e1;clear hx hc2 hc3 hu0 hub hul hsb hu;go_wp2_with fail;go_meet;exact⟨rfl,rfl⟩
          |true=>
           obtain⟨-,-,h4⟩:=hx.2.2.2 rfl;clear hx hc2 hc3 hu0 hub hul hsb hu;rcases h4 with ⟨e1,rfl⟩|⟨e1,rfl⟩
           ·subst e1;rw[show(((43:UInt8).toNat:Int))=43 from rfl] at hB;go_wp2_with fail;go_meet;exact⟨rfl,rfl⟩
           ·subst e1;rw[show(((45:UInt8).toNat:Int))=45 from rfl] at hB;go_wp2_with fail;go_meet;exact⟨rfl,rfl⟩
         ·have u1:decide ((i:Int)+1<(s.size:Int))=false:=dF (by omega);have hx:=hsb.out
          cases sb with
          |false=>
           obtain⟨-,e1,-⟩:=hx.2.2.1 rfl;subst e1;clear hx hu0 hub hul hsb hu;go_wp2_with fail;go_meet;exact⟨rfl,rfl⟩
          |true=>have:=(hx.2.2.2 rfl).2.1;have:=hul.out;omega
        case rest=>
         obtain⟨rfl,rfl⟩:=hcut;go_upto_region 22 with (fail)
         go_cut [126] (fun s126 wx=>s126= .bool sb∧wc=wx)
         case first=>as_aux_lemma=>
          clear hret hS hD hH hEx hR4;have hu0:=hub.out 0;rw[Nat.add_zero] at hu0
          by_cases h0:i+1<s.size
          ·have u1:decide ((i:Int)+1<(s.size:Int))=true:=dT (by omega);obtain⟨c2,hc2,hB⟩:=qbG s (i+1) h0;have hc3:c2=u.getD 0 0:=by rw[←hu0,←hbt.out];exact hc2.out.symm
           have hx:=hsb.out;rw[←hc3] at hx
           cases sb with
           |false=>
            obtain⟨-,-,h3,h4⟩:=hx.2.2.1 rfl;have v1:=qaJ c2 43 43 rfl h3;have v2:=qaJ c2 45 45 rfl h4;clear hx hc2 hc3 hu0 hub hul hsb hu;go_wp2_with fail;go_meet;exact⟨rfl,rfl⟩
           |true=>
            obtain⟨-,-,h4⟩:=hx.2.2.2 rfl;clear hx hc2 hc3 hu0 hub hul hsb hu;rcases h4 with ⟨-,rfl⟩|⟨-,rfl⟩
            ·rw[show(((43:UInt8).toNat:Int))=43 from rfl] at hB;go_wp2_with fail;go_meet;exact⟨rfl,rfl⟩
            ·rw[show(((45:UInt8).toNat:Int))=45 from rfl] at hB;go_wp2_with fail;go_meet;exact⟨rfl,rfl⟩
          ·have u1:decide ((i:Int)+1<(s.size:Int))=false:=dF (by omega);have hx:=hsb.out
           cases sb with
           |false=>
            clear hx hu0 hub hul hsb hu;go_wp2_with fail;go_meet;exact⟨rfl,rfl⟩
           |true=>have:=(hx.2.2.2 rfl).2.1;have:=hul.out;omega
         case rest=>
          obtain⟨rfl,rfl⟩:=hcut;go_upto_if 126 with (fail)
          go_cut [5] (fun s5 wx=>s5= .int .i64 ((i+1+b2:Nat):Int)∧wc=wx)
          case first=>
           have hx:=hsb.out
           cases sb with
           |false=>
            obtain⟨rfl,-⟩:=hx.2.2.1 rfl;clear hx;go_wp2_with fail;go_meet;exact⟨rfl,rfl⟩
           |true=>
            obtain⟨rfl,-⟩:=hx.2.2.2 rfl;clear hx;go_wp2_with fail;go_meet;exact⟨by go_num,rfl⟩
          case rest=>
           obtain⟨rfl,rfl⟩:=hcut;obtain⟨q,hq⟩: ∃q,q=i+1+b2:=⟨_,rfl⟩;rw[←hq];have hVl:V.length+q=s.size:=by rw[hq];exact hsb.out.1
           have hVb:Hid (∀j,l.getD (q+j) 0=V.getD j 0):=Lh (by rw[hq];exact hsb.out.2.1);obtain⟨n,hn⟩: ∃n,n=V.length:=⟨_,rfl⟩;rw[←hn] at hVl;replace hn:=Lh hn;clear hsb hul hub hq hu hless hV;have hnI:(s.size:Int) - (q:Int)=(n:Int):=by omega
           by_cases hn15:1≤n∧n≤5
           ·have x1:decide ((n:Int)<1)=false:=dF (by omega);have x2:decide ((5:Int)<(n:Int))=false:=dF (by omega);go_wp2_with fail;go_loopg [5] (n+1) (fun gk s5 wx=> ∃j:Nat,j≤n∧n - j<gk∧s5= .int .i64 ((q+j:Nat):Int)∧Hid (SpW w wx (.slice av ds.length cv) (.slice av ds.length cv) (bh:Int) ((qas (V.take j):Nat):Int) ng ds)∧Hid (∀c∈V.take j,isD c=true))
            case atStart=>exact⟨0,by omega,by omega,rfl,hS,Lh (fun c hc=>by rw[List.take_zero] at hc;cases hc)⟩
            case round=>
             clear hS hret r0 r1 r2 r3 f0 f1 f2 f3 d0 d1 d2 d3;obtain⟨j,hj,hgk,rfl,hS,hA⟩:=hrel
             by_cases hlt2:j<n
             ·have u1:decide (((q+j:Nat):Int)<(s.size:Int))=true:=dT (by omega);obtain⟨c2,hc2,hB⟩:=qbG s (q+j) (by omega);have hc3:c2=V.getD j 0:=by rw[←hVb.out,←hbt.out];exact hc2.out.symm
              by_cases hd:isD c2=true
              ·have hcd:=(qaq _).1 hd
               have hA2:Hid (∀c∈V.take (j+1),isD c=true):=Lh (fun c hc=>by
                rw[qfN V j (by rw[←hn.out];exact hlt2),List.mem_append,List.mem_singleton,←hc3] at hc;rcases hc with hc|rfl
                ·exact hA.out c hc
                ·exact hd)
               have hdv:Hid (qas (V.take (j+1))=qas (V.take j)*10+(c2.toNat - 48)):=Lh (by
                rw[qfN V j (by rw[←hn.out];exact hlt2),qnk,←hc3])
               have hEb:qas (V.take j)<100000:=by
                have h1:=qeO (V.take j) (fun c hc=>(qaq c).1 (hA.out c hc));have h2:10^(V.take j).length≤10^5:=Nat.pow_le_pow_right (by decide) (by rw[List.length_take];omega);exact Nat.lt_of_lt_of_le h1 h2
               obtain⟨x,hx⟩: ∃x:Nat,(c2.toNat:Int)=(x:Int)+48:=⟨c2.toNat - 48,by omega⟩;have hx9:x≤9:=by omega
               have hxe:Hid (c2.toNat - 48=x):=Lh (by omega);rw[hx] at hB;obtain⟨E,hE⟩: ∃E,Hid (E=qas (V.take j)):=⟨_,Lh rfl⟩;rw[←hE.out] at hEb;have c2':=hS.out.d.c2;rw[←hE.out] at c2';have fz2:=hS.out.d.fz 2
               have hnext:Hid (∀W,W.heap=(wr.setCell ⟨w.heap.size+1,2,none⟩ (.int .i64 (10*(E:Int)+(x:Int)))).heap→Below w.heap.size w W→SpW w W (.slice av ds.length cv) (.slice av ds.length cv) (bh:Int) ((qas (V.take (j+1)):Nat):Int) ng ds):=Lh (fun W h1 h2=>by
                have e:((qas (V.take (j+1)):Nat):Int)=10*(E:Int)+(x:Int):=by rw[hdv.out,hxe.out,←hE.out];omega
                rw[e]
                exact(hS.out.set2 _).heap h1 h2)
               have hbl:=Lh hS.out.b;have w1:decide ((x:Int)+48<48)=false:=dF (by omega);have w2:decide ((57:Int)<(x:Int)+48)=false:=dF (by omega);clear hS hA hd hcd hc2 hc3 hdv hE hx hxe hD hH hEx hR4;go_upto_region 30 with (fail)
               go_region
               all_goals go_wp2_with fail
               all_goals go_roundg (gk - 1)
               case measure=>omega
               case rel=>exact⟨j+1,by omega,by omega,by go_num,Lh (hnext.out _ rfl (Below.drew (Below.setCell (p:=⟨w.heap.size+1,2,none⟩) hbl.out (Nat.le_succ _) _))),hA2⟩
              ·have hd':isD c2=false:=by simpa using hd
               have hF:Hid (qau l=false):=Lh (by
                rw[hR4.out,qnG V j (by rw[←hn.out];exact hlt2) (by rw[←hc3];exact hd'),Bool.and_false])
               obtain⟨r0,r1,r2,r3,f0,f1,f2,f3,d0,d1,d2,d3⟩:=hS.out.cells;have hret:=Lh hS.out.ret;have hcd: ¬(48≤c2.toNat∧c2.toNat≤57):=fun h=>hd ((qaq _).2 h)
               obtain⟨E,hE⟩: ∃E,E=((qas (V.take j):Nat):Int):=⟨_,rfl⟩;rw[←hE] at d2 hret;clear hE;clear hS hA hc2 hc3 hd hd' hD hH hEx hR4
               by_cases h48:48≤c2.toNat
               ·have w1:decide ((c2.toNat:Int)<48)=false:=dF (by omega);have w2:decide ((57:Int)<(c2.toNat:Int))=true:=dT (by omega);have w1':decide (c2.toNat<48)=false:=dF (by omega);have w2':decide (57<c2.toNat)=true:=dT (by omega);go_wp2_with fail;refine bodyPost_ret (qa4 rfl _ _ _ _ _ _ _ rfl hret.out.2.2) rfl ?_;exact⟨hret.out.1,.inr ⟨hF.out,_,_,_,_,_,_,rfl⟩⟩
               ·have w1:decide ((c2.toNat:Int)<48)=true:=dT (by omega);have w1':decide (c2.toNat<48)=true:=dT (by omega);go_wp2_with fail;refine bodyPost_ret (qa4 rfl _ _ _ _ _ _ _ rfl hret.out.2.2) rfl ?_;exact⟨hret.out.1,.inr ⟨hF.out,_,_,_,_,_,_,rfl⟩⟩
             ·obtain rfl:j=n:=by omega
              have u1:decide (((q+j:Nat):Int)<(s.size:Int))=false:=dF (by omega);have eV:V.take j=V:=by rw[hn.out,List.take_length]
              have hF:Hid (qau l=true):=Lh (by
               rw[hR4.out,qkT V (fun c hc=>hA.out c (by rw[eV];exact hc)),←hn.out,dT hn15.1,dT hn15.2]
               simp)
              have hEb:qas (V.take j)<100000:=by
               have h1:=qeO (V.take j) (fun c hc=>(qaq c).1 (hA.out c hc));have h2:10^(V.take j).length≤10^5:=Nat.pow_le_pow_right (by decide) (by rw[List.length_take];omega);exact Nat.lt_of_lt_of_le h1 h2
              obtain⟨E,hE⟩: ∃E,E=qas (V.take j):=⟨_,rfl⟩;rw[←hE] at hEb hS;rw[eV] at hE;have hEx2:Hid (qfw (tlL l)=if less then -(E:Int) else (E:Int)):=Lh (by rw[hEx.out,hE]);clear hA eV hE hR4 hEx
              cases less with
              |false=>
               obtain⟨r0,r1,r2,r3,f0,f1,f2,f3,d0,d1,d2,d3⟩:=hS.out.cells;have hret:=Lh hS.out.ret;clear hS;go_wp2_with fail;refine bodyPost_ret (qa4 rfl _ _ _ _ _ _ _ rfl hret.out.2.2) rfl ?_;refine⟨hret.out.1,.inl ⟨hF.out,av,cv,?_,?_⟩⟩
               ·rw[hEx2.out,hD.out,hH.out,hng.out];rfl
               ·rw[hD.out];exact hret.out.2.1.nrow
              |true=>
               have c2':=hS.out.d.c2;have fz2:=hS.out.d.fz 2;obtain⟨r0,r1,r2,r3,f0,f1,f2,f3,d0,d1,d2,d3⟩:=(hS.out.set2 (-(E:Int))).cells;have hret:=Lh (hS.out.set2 (-(E:Int))).ret;clear hS;go_wp2_with fail;refine bodyPost_ret (qa4 rfl _ _ _ _ _ _ _ rfl hret.out.2.2) rfl ?_;refine⟨hret.out.1,.inl ⟨hF.out,av,cv,?_,?_⟩⟩
               ·rw[hEx2.out,hD.out,hH.out,hng.out];rfl
               ·rw[hD.out];exact hret.out.2.1.nrow
           ·have hF:Hid (qau l=false):=Lh (by
             rw[hR4.out];have h1:=qbt V;rw[←hn.out] at h1
             by_cases h2:qaz V=n
             ·rw[h2]
              by_cases h3:1≤n
              ·rw[dF (show¬n≤5 by omega),Bool.and_false,Bool.false_and]
              ·rw[dF h3,Bool.false_and,Bool.false_and]
             ·rw[show(qaz V==V.length)=false by rw[beq_eq_false_iff_ne,←hn.out];exact h2,Bool.and_false])
            clear hS hD hH hEx hR4 hVb hn
            by_cases h1:n=0
            ·have x1:decide ((n:Int)<1)=true:=dT (by omega);go_wp2_with fail;refine bodyPost_ret (qa4 rfl _ _ _ _ _ _ _ rfl hret.out.2.2) rfl ?_;exact⟨hret.out.1,.inr ⟨hF.out,_,_,_,_,_,_,rfl⟩⟩
            ·have x1:decide ((n:Int)<1)=false:=dF (by omega);have x2:decide ((5:Int)<(n:Int))=true:=dT (by omega);go_wp2_with fail;refine bodyPost_ret (qa4 rfl _ _ _ _ _ _ _ rfl hret.out.2.2) rfl ?_;exact⟨hret.out.1,.inr ⟨hF.out,_,_,_,_,_,_,rfl⟩⟩
      ·have hF:Hid (qau l=false):=Lh (by
        rw[hR2.out];have h1:(c==101)=false:=by simp;exact fun e=>hce (.inl e)
        have h2:(c==69)=false:=by simp;exact fun e=>hce (.inr e)
        rw[h1,h2];rfl)
       have v1:((c.toNat:Int) !=101)=true:=by rw[bne,qaJ c 101 101 rfl (fun e=>hce (.inl e))];rfl
       have v2:((c.toNat:Int) !=69)=true:=by rw[bne,qaJ c 69 69 rfl (fun e=>hce (.inr e))];rfl
       clear hS hR2 hT hD hH hc hce hu;go_wp2_with fail;refine bodyPost_ret (qa4 rfl _ _ _ _ _ _ _ rfl hret.out.2.2) rfl ?_;exact⟨hret.out.1,.inr ⟨hF.out,_,_,_,_,_,_,rfl⟩⟩
end
section
theorem qjo (l:List UInt8):dn (qcf l)=qkd l∧qfw (tlL l) - (qnt l:Int)=qj3 l:=by
 obtain⟨h1,h2⟩:=qrS (sgd l) (qfw (tlL l));have ht:=(qcp l).2;unfold qcf qnt qkd qj3 qfi;rw[ht];rw[ht] at h2;exact⟨h1,h2.symm⟩
theorem qg8 (l:List UInt8):(qcf l).length≤l.length∧qnt l≤l.length:=by
 obtain⟨h1,h2,h3⟩:=quI false (sgd l);have:=ql9 l;exact⟨Nat.le_trans h1 this,Nat.le_trans h2 this⟩
theorem qme (l:List UInt8) (h:qau l=true):(qfw (tlL l)).natAbs≤99999:=by
 rw[(qcp l).1] at h;rw[(qcp l).2];simp only[Bool.and_eq_true] at h;have ht:=h.2;generalize (msc false (sgd l)).2.2=t at*
 cases t with
 |nil=>decide
 |cons c u=>
  rw[qfF] at ht;simp only[Bool.and_eq_true,decide_eq_true_eq,beq_iff_eq] at ht;obtain⟨-,⟨h1,h2⟩,h3⟩:=ht;have hv:=qeO (sgd u) (fun c hc=>(qaq c).1 (qdt _ h3 c hc));have h5:10^(sgd u).length≤10^5:=Nat.pow_le_pow_right (by decide) (by omega);have h6:qas (sgd u)<100000:=Nat.lt_of_lt_of_le hv h5;show(if ngL u then -(qas (sgd u):Int) else (qas (sgd u):Int)).natAbs≤_
  split<;>omega
theorem qjF (s:ByteArray) (hs:s.size≤1300) (hd:s.size≤1200→dn (qcf s.data.toList)<T10 1210) (w:World):Calls Tryz.prog 139 #[.string s] w (qrf s.data.toList w):=by
 have hlen:=qat s
 by_cases hb:1200<s.size
 ·have u1:decide ((1200:Int)<(s.size:Int))=true:=dT (by omega);have u2:decide (1200<s.size)=true:=dT hb;have hl:Hid (1200<s.data.toList.length):=Lh (by rw[hlen];exact hb);clear hlen hd;go_enter Tryz.func139,Tryz.ntmps139;go_wp2_with fail;go_ret2;exact⟨Below.refl _ _,_,_,.inl ⟨hl.out,rfl,rfl⟩,rfl⟩
 ·have u1:decide ((1200:Int)<(s.size:Int))=false:=dF (by omega);have u2:decide (1200<s.size)=false:=dF hb;have hl:Hid (s.data.toList.length≤1200):=Lh (by rw[hlen];omega);replace hd:=hd (by omega)
  cases hn:qbz s.data.toList with
  |true=>
   obtain⟨l,hlE⟩: ∃l,l=s.data.toList:=⟨_,rfl⟩;rw[←hlE] at hn hl⊢;have hst:s.toList=l:=by rw[hlE];exact ByteArray.toList_eq s
   have hnh:=Lh hn;have hc:=qik l hn;clear hd hlen hlE hn;rcases hc with rfl|rfl|rfl|rfl
   ·have e1:(s.toList==[73,110,102])=true:=by rw[hst];rfl
    clear hst;go_enter Tryz.func139,Tryz.ntmps139;go_wp2_with fail;go_ret2;exact⟨Below.refl _ _,_,_,.inr (.inl ⟨hl.out,hnh.out,rfl,rfl⟩),rfl⟩
   ·have e1:(s.toList==[73,110,102])=false:=by rw[hst];rfl
    have e2:(s.toList==[43,73,110,102])=true:=by rw[hst];rfl
    clear hst;go_enter Tryz.func139,Tryz.ntmps139;go_wp2_with fail;go_ret2;exact⟨Below.refl _ _,_,_,.inr (.inl ⟨hl.out,hnh.out,rfl,rfl⟩),rfl⟩
   ·have e1:(s.toList==[73,110,102])=false:=by rw[hst];rfl
    have e2:(s.toList==[43,73,110,102])=false:=by rw[hst];rfl
    have e3:(s.toList==[45,73,110,102])=true:=by rw[hst];rfl
    clear hst;go_enter Tryz.func139,Tryz.ntmps139;go_wp2_with fail;go_ret2;exact⟨Below.refl _ _,_,_,.inr (.inl ⟨hl.out,hnh.out,rfl,rfl⟩),rfl⟩
   ·have e1:(s.toList==[73,110,102])=false:=by rw[hst];rfl
    have e2:(s.toList==[43,73,110,102])=false:=by rw[hst];rfl
    have e3:(s.toList==[45,73,110,102])=false:=by rw[hst];rfl
    have e4:(s.toList==[78,97,78])=true:=by rw[hst];rfl
    clear hst;go_enter Tryz.func139,Tryz.ntmps139;go_wp2_with fail;go_ret2;exact⟨Below.refl _ _,_,_,.inr (.inl ⟨hl.out,hnh.out,rfl,rfl⟩),rfl⟩
  |false=>
   obtain⟨e1,e2,e3,e4⟩:=qlL s hn;have hnh:=Lh hn;have cS:=Lh (fun W=>qkv s hs W);obtain⟨dl,bl⟩:=qg8 s.data.toList;have hdl:Hid ((qcf s.data.toList).length≤1300∧qnt s.data.toList≤1300):=Lh (by rw[hlen] at dl bl;omega);have hdh:=Lh hd;have h9:Hid (∀x∈qcf s.data.toList,x≤9):=Lh (qiW false _);clear dl bl hd hlen hn;go_enter Tryz.func139,Tryz.ntmps139;obtain⟨l,hl2⟩: ∃l,Hid (l=s.data.toList):=⟨_,Lh rfl⟩;rw[←hl2.out] at cS hdh h9 hdl hnh hl⊢;go_wp2_with fail;refine(cS.out _).mono ?_;rintro e w1 ⟨hb,h⟩;have B:=Lh hb;clear hb cS;rcases h with ⟨hr,a,c,rfl,hN⟩|⟨hr,a,n,c,b,x,g,rfl⟩
   ·have hv:=Lh (fun (W:World) (hW:qbI W a c (qcf l))=>qeM a c (qcf l) hdl.out.1 h9.out (qnt l) hdl.out.2 (qfw (tlL l)) (qme l hr) (ngL l) W hW hdh.out);have hrh:=Lh hr;have hNh:=Lh hN;clear hr hN;obtain⟨nl,hnl⟩: ∃n,Hid (n=(qcf l).length):=⟨_,Lh rfl⟩;obtain⟨bh,hbh⟩: ∃n,Hid (n=qnt l):=⟨_,Lh rfl⟩;obtain⟨ex,hex⟩: ∃n,Hid (n=qfw (tlL l)):=⟨_,Lh rfl⟩;obtain⟨ng,hng⟩: ∃n,Hid (n=ngL l):=⟨_,Lh rfl⟩;rw[←hnl.out,←hbh.out,←hex.out,←hng.out] at hv;rw[←hnl.out,←hbh.out,←hex.out,←hng.out];have hB2: ∀W,Hid (Below w.heap.size w (w1.alloc W)):=fun W=>Lh (B.out.alloc B.out.size W)
    have hN2: ∀W,Hid (qbI (w1.alloc W) a c (qcf l)):=fun W=>Lh (hNh.out.on ((Below.refl _ _).alloc (Nat.le_refl _) W))
    go_wp2_with fail;refine(hv.out _ (hN2 _).out).mono ?_;rintro e w2 ⟨⟨r,rfl,hR⟩,hb2⟩;have hRI:r≤9218868437227405312:=hR.1
    have hc3:w2.cell? ⟨w1.heap.size,3,none⟩=some (.bool ng):=by
     have h:=DcB.on (DcB.new w1 (.slice a nl c) (bh:Int) ex ng) hb2;exact h.c3
    have B2:=Lh (((hB2 _).out).trans (hb2.mono (hB2 _).out.size));have hRh:=Lh hR
    have hpw:Hid (qaW (qkd l) (qj3 l) r):=Lh (by
     have e:=(qjo l).2;rw[←hbh.out,←hex.out] at e;rw[←e,←(qjo l).1]
     exact hRh.out)
    clear hR hb2 hv hN2 hB2
    cases ng with
    |false=>
     go_wp2_with fail;go_ret2;refine⟨B2.out,_,_,.inr (.inr (.inr ⟨hl.out,hnh.out,hrh.out,rfl,r,hpw.out,rfl⟩)),?_⟩;rw[←hng.out];show _=Ending.returned (.tuple #[.int .u64 ((0+r:Nat):Int),.int .i64 0]);rw[Nat.zero_add];rfl
    |true=>
     go_wp2_with fail;go_ret2;refine⟨B2.out,_,_,.inr (.inr (.inr ⟨hl.out,hnh.out,hrh.out,rfl,r,hpw.out,rfl⟩)),?_⟩;rw[←hng.out];show _=Ending.returned (.tuple #[.int .u64 ((9223372036854775808+r:Nat):Int),.int .i64 0]);rw[show((9223372036854775808+r:Nat):Int)=(r:Int)+9223372036854775808 by omega];rfl
   ·go_wp2_with fail;go_ret2;exact⟨B.out.alloc B.out.size _,_,_,.inr (.inr (.inl ⟨hl.out,hnh.out,hr,rfl,rfl⟩)),rfl⟩
end
end Go.Proofs.YtdeimnnpcfncpaaGreatDoor
