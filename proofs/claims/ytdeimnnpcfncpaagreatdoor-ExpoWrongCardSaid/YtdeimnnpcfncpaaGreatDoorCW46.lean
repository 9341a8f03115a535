/- Parts of the proof: V4 RJ V5 RK. -/
import Derived.Deep.RegionLawGrows
import Derived.Test.YtdeimnnpcfncpaaGreatDoorCW45
set_option linter.unusedVariables false
set_option linter.unusedSimpArgs false
set_option maxRecDepth 100000
set_option maxHeartbeats 64000000
section
namespace Go.Proofs.YtdeimnnpcfncpaaGreatDoor.X
open Go Go.RowKit
theorem qnX (c:List UInt8): ∀ls:List Lb,(ls.map Prod.fst).Nodup→ ∀x∈ls.eraseP (fun x=>x.1==c),x.1≠c
 | [],_,x,hx=>by cases hx
 |y::t,h,x,hx=>by
  obtain⟨h1,h2⟩:=List.nodup_cons.1 (by simpa using h:(y.1::t.map Prod.fst).Nodup)
  by_cases hy:(y.1==c)=true
  ·rw[List.eraseP_cons_of_pos (p:=fun x:Lb=>x.1==c) hy] at hx;rw[←eq_of_beq hy];intro e;exact h1 (List.mem_map.2 ⟨x,hx,e⟩)
  ·rw[List.eraseP_cons_of_neg (p:=fun x:Lb=>x.1==c) hy] at hx;rcases List.mem_cons.1 hx with rfl|hx
   ·intro e;exact hy (by rw[e];exact beq_self_eq_true _)
   ·exact qnX c t h2 x hx
def MdL (ls:List Lb):Prop:=(ls.map Prod.fst).Nodup∧ ∀x∈ls,x.1∈qbq∧x.2∈qda
theorem qra {ls:List Lb} {y:Lb} (h:MdL ls) (hy:y.1∈qbq∧y.2∈qda):MdL (mdS ls y):=by
 unfold mdS;refine⟨?_,fun x hx=>?_⟩
 ·rw[List.map_append,List.nodup_append];refine⟨List.Nodup.sublist ((List.eraseP_sublist ..).map _) h.1,by simp,?_⟩;intro a ha b hb;obtain⟨x,hx,rfl⟩:=List.mem_map.1 ha;simp at hb;rw[hb];exact qnX y.1 ls h.1 x hx
 ·rcases List.mem_append.1 hx with hx|hx
  ·exact h.2 x (List.mem_of_mem_eraseP hx)
  ·rw[List.mem_singleton] at hx;subst hx;exact hy
theorem qdn {l:List (List UInt8)} {i:Nat} (h:i<l.length):l.getD i []∈l:=by
 rw[List.getD_eq_getElem?_getD,List.getElem?_eq_getElem h,Option.getD_some];exact List.getElem_mem h
theorem qr0 (q:Nat×Nat):(mkL q).1∈qbq∧(mkL q).2∈qda:=
 ⟨qdn (by show _<16;exact Nat.mod_lt _ (by decide)),qdn (by show _<8;exact Nat.mod_lt _ (by decide))⟩
theorem qhI: ∀(qs:List (Nat×Nat)) (ls:List Lb),MdL ls→MdL (qs.foldl (fun out q=>mdS out (mkL q)) ls)
 | [],_,h=>h
 |q::t,ls,h=>qhI t _ (qra h (qr0 q))
theorem qnq (qs:List (Nat×Nat)):MdL (mdF qs):=qhI _ _ ⟨by simp,by simp⟩
theorem qkq {α:Type} [BEq α] [LawfulBEq α]: ∀(l m:List α),l.Nodup→(∀x∈l,x∈m)→l.length≤m.length
 | [],_,_,_=>Nat.zero_le _
 |x::t,m,h,hs=>by
  obtain⟨h1,h2⟩:=List.nodup_cons.1 h;have hx:=hs x (List.mem_cons_self ..);have:=qkq t (m.erase x) h2 (fun y hy=>(List.mem_erase_of_ne (fun e=>h1 (by rw[←e];exact hy))).2 (hs y (List.mem_cons_of_mem _ hy)));rw[List.length_erase_of_mem hx] at this;have:=List.length_pos_of_mem hx;simp only[List.length_cons];omega
theorem qol:(qbq.all fun n=>qda.all fun v=>qbS (n,v)==0)=true:=by decide+kernel
theorem qqo {x:Lb} (h:x.1∈qbq∧x.2∈qda):qbS x=0:=by
 have:=List.all_eq_true.1 (List.all_eq_true.1 qol x.1 h.1) x.2 h.2;simpa using this
theorem qhg: ∀ls:List Lb,(∀x∈ls,qbS x=0)→qaM ls=0
 | [],_=>rfl
 |x::t,h=>by
  unfold qaM;rw[if_pos (h x (List.mem_cons_self ..))];exact qhg t (fun y hy=>h y (List.mem_cons_of_mem _ hy))
theorem qfx:(qbq.all fun n=>decide (n.length≤19))=true:=by decide+kernel
theorem qhz:(qda.all fun n=>decide (n.length≤3))=true:=by decide+kernel
theorem qre (qs:List (Nat×Nat)): ∃r,ofF (mdF qs)=(0,r)∧qav r=true∧r.length≤16∧(∀x∈r,x.1.length≤19∧x.2.length≤10):=by
 obtain⟨h1,h2⟩:=qnq qs;have hf:=qhg (mdF qs) (fun x hx=>qqo (h2 x hx));have ht:=(qa1 _).2 h1
 have hl:(mdF qs).length≤16:=by
  have:=qkq ((mdF qs).map Prod.fst) qbq h1 (fun x hx=>by obtain⟨y,hy,rfl⟩:=List.mem_map.1 hx;exact(h2 y hy).1);rw[List.length_map] at this;exact this
 have hsl: ∀ls:List Lb,(srt ls).length=ls.length:=by
  intro ls
  induction ls with
  |nil=>rfl
  |cons x t ih=>
   have hi: ∀(x:Lb) (l:List Lb),(qjX x l).length=l.length+1:=by
    intro x l
    induction l with
    |nil=>rfl
    |cons y t ih=>unfold qjX;split<;>simp[ih]
   show(qjX x (srt t)).length=_;rw[hi,ih];rfl
 have hle:((srt (mdF qs)).filter (fun x=>!emp x)).length≤16:=by
  have:=List.length_filter_le (fun x=>!emp x) (srt (mdF qs));rw[hsl] at this;omega
 have e:ofF (mdF qs)=(0,(srt (mdF qs)).filter (fun x=>!emp x)):=by
  unfold ofF;rw[if_pos hf,ht,if_neg (by decide),if_neg (by omega)]
 obtain⟨r1,r2⟩:=qjJ e;refine⟨_,e,r1,hle,fun x hx=>?_⟩;have hx2:=h2 x ((r2 x).1 hx).1;have a1:=List.all_eq_true.1 qfx x.1 hx2.1;have a2:=List.all_eq_true.1 qhz x.2 hx2.2;simp at a1 a2;exact⟨a1,by omega⟩
def upL:List (List UInt8):=[[117,112],[97],[104,116,116,112,95,116,111,116,97,108],[97,58,98],[120],[108,101],[95],[122,57]]
theorem qqB:(upL.all fun v=>qaj 58 v&&qbn v&&decide (v.length≤10))=true:=by decide+kernel
theorem qin {v:List UInt8} (h:v∈upL):qaj 58 v=true∧qbn v=true∧v.length≤10:=by
 have:=List.all_eq_true.1 qqB v h;simp at this;exact⟨this.1.1,this.1.2,this.2⟩
end Go.Proofs.YtdeimnnpcfncpaaGreatDoor.X
end
section
namespace Go.Proofs.YtdeimnnpcfncpaaGreatDoor
open Go Go.RowKit Go.Shelf
section
variable {P:Program} {ops:Array Oper} {Q:Exit→Act→World→Prop} {a:Act} {w:World} {K:Act→World→Prop} {i:Nat} {o:Oper}
theorem qgm {ops:Array Oper} {md:Region.Mode} (hlow: ∀(i:Nat) (o:Oper),ops[i]?=some o→ ∀e∈o.after,Region.binds md e=true→e.on<i) (listed:Array Bool) (hsz:listed.size=ops.size) (hr:Region.ready md ops listed=[]):
 ∀i,i<ops.size→listed.getD i false=true:=by
 intro i
 induction i using Nat.strongRecOn with
 |_ i ih=>
  intro hi
  by_cases hl:listed.getD i false=true
  ·exact hl
  ·exfalso
   have hm:i∈Region.ready md ops listed:=by
    rw[mem_ready];have hi':i<listed.size:=by omega
    refine⟨by simpa [hi'] using hl,ops[i],by simp[hi],fun e he hb=>ih _ (hlow i ops[i] (by simp[hi]) e he hb) ?_⟩;have:=hlow i ops[i] (by simp[hi]) e he hb;omega
   rw[hr] at hm;cases hm
def waits (l:List Oper) (j:Nat):List Nat:=match l[j]? with|some o=>(o.after.toList.filter (fun e=>Region.binds .any e)).map (·.on)|none=>[]
def reach (l:List Oper):Nat→Nat→List Nat
 |0,_=>[]
 |f+1,j=>waits l j++(waits l j).flatMap (reach l f)
theorem qcU {l:List Oper} {listed:Nat→Bool} (hcl: ∀i,listed i=true→ ∀k,(waits l i).contains k=true→listed k=true): ∀f i,listed i=true→ ∀k,(reach l f i).contains k=true→listed k=true:=by
 intro f
 induction f with
 |zero=>intro i _ k h;simp[reach] at h
 |succ f ih=>
  intro i hi k h;rw[List.contains_iff_mem,reach,List.mem_append,List.mem_flatMap] at h;rcases h with h|⟨j,hj,h⟩
  ·exact hcl i hi k (List.contains_iff_mem.2 h)
  ·exact ih j (hcl i hi j (List.contains_iff_mem.2 hj)) k (List.contains_iff_mem.2 h)
theorem qdx {id:Nat} {l:List Oper} {a0:Act} {w0:World} (needs:Nat→List Nat) (fin:List Nat) (F:Nat→Value→World→Prop) (R:Nat→World→World→Prop)
 (hm:P.follows .mixedOrders=true)
 (hlow:(List.range l.length).all (fun i=>((l[i]?).map fun o=>o.after.all fun e=>!(Region.binds .any e)||decide (e.on<i)).getD true)=true)
 (hdist:(l.map (·.dst)).Pairwise (· ≠ ·))
 (hdst:l.all (fun o=>(o.dst.map fun d=>decide (d<a0.tmps.size)).getD false)=true)
 (hneeds:(List.range l.length).all (fun j=>(needs j).all fun i=>(waits l j).contains i)=true)
 (hR: ∀j w w',Below w0.heap.size w0 w→R j w w'→Below w0.heap.size w0 w')
 (hkeep: ∀i j v w w',i<l.length→j<l.length→i≠j→(reach l l.length i).contains j=false→(i∈fin∨ ∃j',i∈needs j'∧j'≠j∧(reach l l.length j).contains j'=false)→Below w0.heap.size w0 w→F i v w→R j w w'→F i v w')
 (hstep: ∀j o,l[j]?=some o→ ∀a w,Below w0.heap.size w0 w→(∀t,(∀o∈l,o.dst≠some t)→a.tmps.getD t undef=a0.tmps.getD t undef)→
   (∀i∈needs j,∀o',l[i]?=some o'→F i (qaD a o') w)→
   wpOp P l.toArray Q j (fun a' w'=> ∃v,a'=a.put o.dst v∧R j w w'∧F j v w') a w)
 (hend: ∀a w,Below w0.heap.size w0 w→(∀i∈fin,∀o,l[i]?=some o→F i (qaD a o) w)→a=l.foldl (qat a) a0→Q .normal a w):
 (Code.region id l.toArray true).wp P Q a0 w0:=by
 refine wp_region_any hm ?_
 have hlow': ∀(i:Nat) (o:Oper),l.toArray[i]?=some o→ ∀e∈o.after,Region.binds .any e=true→e.on<i:=by
  intro i o ho e he hb
  have hi:i<l.length:=by
   rcases Nat.lt_or_ge i l.length with h|h
   ·exact h
   ·simp[List.getElem?_eq_none h] at ho
  have:=List.all_eq_true.1 hlow i (List.mem_range.2 hi);simp at ho;rw[ho] at this;simp at this;obtain⟨k,hk,rfl⟩:=Array.mem_iff_getElem.1 he;have h2:=this k hk;rw[hb] at h2;simpa using h2
 have hwait: ∀(j:Nat) (o:Oper),l[j]?=some o→ ∀i,(waits l j).contains i=true↔ ∃e∈o.after,Region.binds .any e=true∧e.on=i:=by
  intro j o ho i;unfold waits;rw[ho];simp only[List.contains_iff_mem,List.mem_map,List.mem_filter];constructor
  ·rintro⟨e,⟨h1,h2⟩,h3⟩;exact⟨e,Array.mem_toList_iff.1 h1,h2,h3⟩
  ·rintro⟨e,h1,h2,h3⟩;exact⟨e,⟨Array.mem_toList_iff.2 h1,h2⟩,h3⟩
 have hdd: ∀(i j:Nat) oi oj t,l[i]?=some oi→l[j]?=some oj→oi.dst=some t→oj.dst=some t→i=j:=by
  intro i j oi oj t hi hj e1 e2;obtain⟨hi1,hi2⟩:=List.getElem?_eq_some_iff.1 hi;obtain⟨hj1,hj2⟩:=List.getElem?_eq_some_iff.1 hj;rw[List.pairwise_iff_getElem] at hdist;rcases Nat.lt_trichotomy i j with h|h|h
  ·exact absurd (by rw[List.getElem_map,List.getElem_map,hi2,hj2,e1,e2]) (hdist i j (by simpa) (by simpa) h)
  ·exact h
  ·exact absurd (by rw[List.getElem_map,List.getElem_map,hi2,hj2,e1,e2]) (hdist j i (by simpa) (by simpa) h)
 refine qdz (I:=fun listed a w=>listed.size=l.length∧a.tmps.size=a0.tmps.size∧a.defers=a0.defers∧Below w0.heap.size w0 w∧(∀t,(∀o∈l,o.dst≠some t)→a.tmps[t]?=a0.tmps[t]?)∧
  (∀i,listed.getD i false=true→ ∀k,(waits l i).contains k=true→listed.getD k false=true)∧
  (∀i o,l[i]?=some o→listed.getD i false=true→(i∈fin∨ ∃j',i∈needs j'∧listed.getD j' false=false)→F i (qaD a o) w)) ?_ ?_ _ _ _ _ ?_ ?_
 ·rintro listed a w j ⟨h1,h2,h3,h4,h5,hcl,h6⟩ hj;obtain⟨hu,o,ho,haft⟩:=mem_ready.1 hj;have ho':l[j]?=some o:=by simpa using ho
  have hu':listed.getD j false=false:=by
   rw[Array.getD_eq_getD_getElem?] at hu⊢
   cases hc:listed[j]? with
   |none=>rfl
   |some b=>rw[hc] at hu;exact hu
  have hjl:j<l.length:=(List.getElem?_eq_some_iff.1 ho').1
  have hw: ∀k,(waits l j).contains k=true→listed.getD k false=true:=by
   intro k hk;obtain⟨e,he,hb,rfl⟩:=(hwait j o ho' k).1 hk;exact haft e he hb
  have hnd: ∀i∈needs j,(waits l j).contains i=true:=fun i hi=>by
   have:=List.all_eq_true.1 hneeds j (List.mem_range.2 hjl);exact List.all_eq_true.1 this i hi
  refine wpOp_mono ?_ (hstep j o ho' a w h4 (fun t ht=>by simp[h5 t ht]) (fun i hi o' hoe=>h6 i o' hoe (hw i (hnd i hi)) (.inr ⟨j,hi,hu'⟩)));rintro a' w' ⟨v,rfl,hRj,hF⟩;have hom:o∈l:=List.mem_of_getElem? ho';have hd:=List.all_eq_true.1 hdst o hom
  obtain⟨d,hod,hdlt⟩: ∃d,o.dst=some d∧d<a0.tmps.size:=by
   cases hx:o.dst with
   |none=>simp[hx] at hd
   |some d=>simp[hx] at hd;exact⟨d,rfl,hd⟩
  have hget: ∀i,i≠j→(listed.setIfInBounds j true).getD i false=listed.getD i false:=fun i hij=>getD_set_ne false (fun e=>hij e.symm)
  refine⟨by simp[h1],by rw[hod];simp[Act.put,h2],by rw[hod];simp[Act.put,h3],hR j w w' h4 hRj,fun t ht=>?_,?_,?_⟩
  ·have hne:d≠t:=fun e=>ht o hom (by rw[hod,e])
   rw[hod];simp only[Act.put];rw[Array.getElem?_setIfInBounds_ne hne];exact h5 t ht
  ·intro i hl k hk
   by_cases hkj:k=j
   ·subst hkj;have:k<listed.size:=by omega
    simp[this]
   ·rw[hget k hkj]
    by_cases hij:i=j
    ·subst hij;exact hw k hk
    ·rw[hget i hij] at hl;exact hcl i hl k hk
  ·intro i oi hi hl hwant
   by_cases hij:i=j
   ·subst hij;obtain rfl:o=oi:=Option.some.inj (ho'.symm.trans hi);have:qaD (a.put o.dst v) o=v:=by simp[qaD,hod,Act.put,h2,hdlt]
    rw[this];exact hF
   ·rw[hget i hij] at hl
    have hslot:qaD (a.put o.dst v) oi=qaD a oi:=by
     unfold qaD
     cases hoj:oi.dst with
     |none=>rfl
     |some t=>
      have hne:d≠t:=fun e=>hij (hdd i j oi o d hi ho' (by rw[hoj,e]) hod)
      rw[hod];simp[Act.put,Array.getElem?_setIfInBounds_ne hne]
    rw[hslot];have hil:i<l.length:=(List.getElem?_eq_some_iff.1 hi).1
    have hnw:(reach l l.length i).contains j=false:=by
     cases hc:(reach l l.length i).contains j with
     |false=>rfl
     |true=>have:=qcU (listed:=fun i=>listed.getD i false) hcl l.length i hl j hc;rw[hu'] at this;cases this
    rcases hwant with hw1|⟨j',hj1,hj2⟩
    ·exact hkeep i j _ w w' hil hjl hij hnw (.inl hw1) h4 (h6 i oi hi hl (.inl hw1)) hRj
    ·have hjj:j'≠j:=by
      intro e;subst e;have:j'<listed.size:=by omega
      simp[this] at hj2
     rw[hget j' hjj] at hj2
     have hnw2:(reach l l.length j).contains j'=false:=by
      cases hc:(reach l l.length j).contains j' with
      |false=>rfl
      |true=>
       exfalso;obtain⟨f,hf⟩: ∃f,l.length=f+1:=⟨l.length - 1,by omega⟩;rw[hf,List.contains_iff_mem,reach,List.mem_append,List.mem_flatMap] at hc;rcases hc with hc|⟨k,hk,hc⟩
       ·have:=hw j' (List.contains_iff_mem.2 hc);rw[hj2] at this;cases this
       ·have:=qcU (listed:=fun i=>listed.getD i false) hcl f k (hw k (List.contains_iff_mem.2 hk)) j' (List.contains_iff_mem.2 hc);rw[hj2] at this;cases this
     exact hkeep i j _ w w' hil hjl hij hnw (.inr ⟨j',hj1,hjj,hnw2⟩) h4 (h6 i oi hi hl (.inr ⟨j',hj1,hj2⟩)) hRj
 ·rintro listed a w ⟨h1,h2,h3,h4,h5,_,h6⟩ hr;have hal:=qgm hlow' listed (by simpa using h1) hr;refine hend a w h4 (fun i hi o ho=>h6 i o ho (hal i ?_) (.inl hi)) (qgs a a0 l h2 h3 h5);have:=(List.getElem?_eq_some_iff.1 ho).1;simpa using this
 ·rw[show l.toArray.size=l.length by simp,Array.toList_replicate,qaZ];exact Nat.le_trans (List.length_filter_le _ _) (by simp)
 ·refine⟨by simp,rfl,rfl,(Below.refl _ _).trans ⟨rfl,rfl,rfl,Nat.le_refl _,fun _ _=>rfl⟩,fun _ _=>rfl,fun i hl=>?_,fun i o ho hl=>?_⟩
  ·exfalso;rw[Array.getD_eq_getD_getElem?,Array.getElem?_replicate] at hl
   split at hl<;>cases hl
  ·have:=(List.getElem?_eq_some_iff.1 ho).1;simp[this] at hl
def clash (l:List Oper) (needs:Nat→List Nat) (fin:List Nat) (i j:Nat):Bool:=
 i !=j&&!((reach l l.length i).contains j)&&(fin.contains i||(List.range l.length).any fun j'=>(needs j').contains i&&j' !=j&&!((reach l l.length j).contains j'))
theorem qd8 {id:Nat} {l:List Oper} {a0:Act} {w0:World} (needs:Nat→List Nat) (fin fr wr:List Nat) (F:Nat→Value→World→Prop)
 (hm:P.follows .mixedOrders=true)
 (hlow:(List.range l.length).all (fun i=>((l[i]?).map fun o=>o.after.all fun e=>!(Region.binds .any e)||decide (e.on<i)).getD true)=true)
 (hdist:(l.map (·.dst)).Pairwise (· ≠ ·))
 (hdst:l.all (fun o=>(o.dst.map fun d=>decide (d<a0.tmps.size)).getD false)=true)
 (hneeds:(List.range l.length).all (fun j=>(needs j).all fun i=>(waits l j).contains i)=true)
 (hlast: ∀j,l.length≤j→needs j=[])
 (hclash:(wr.all fun j=>fr.all fun i=>!(clash l needs fin i j))=true)
 (hk1: ∀i v w w',F i v w→Below w.heap.size w w'→F i v w')
 (hk2: ∀i v w w',fr.contains i=false→Below w0.heap.size w0 w→F i v w→Below w0.heap.size w w'→F i v w')
 (hstep: ∀j o,l[j]?=some o→ ∀a w,Below w0.heap.size w0 w→(∀t,(∀o∈l,o.dst≠some t)→a.tmps.getD t undef=a0.tmps.getD t undef)→
   (∀i∈needs j,∀o',l[i]?=some o'→F i (qaD a o') w)→
   wpOp P l.toArray Q j (fun a' w'=> ∃v,a'=a.put o.dst v∧(if wr.contains j then Below w0.heap.size w w' else Below w.heap.size w w')∧F j v w') a w)
 (hend: ∀a w,Below w0.heap.size w0 w→(∀i∈fin,∀o,l[i]?=some o→F i (qaD a o) w)→a=l.foldl (qat a) a0→Q .normal a w):
 (Code.region id l.toArray true).wp P Q a0 w0:=by
 refine qdx needs fin F (fun j w w'=>if wr.contains j then Below w0.heap.size w w' else Below w.heap.size w w') hm hlow hdist hdst hneeds ?_ ?_ hstep hend
 ·intro j w w' h h2
  split at h2
  ·exact h.trans h2
  ·exact h.trans (h2.mono h.size)
 ·intro i j v w w' _ _ hij h1 h2 hb0 hF hR
  split at hR
  ·rename_i hwj
   cases hfi:fr.contains i with
   |true=>
    exfalso;have hc:=List.all_eq_true.1 (List.all_eq_true.1 hclash j (List.contains_iff_mem.1 hwj)) i (List.contains_iff_mem.1 hfi)
    have:clash l needs fin i j=true:=by
     unfold clash;rw[h1,show(i !=j)=true by simpa using hij];simp only[Bool.not_false,Bool.and_true,Bool.true_and,Bool.or_eq_true,List.any_eq_true];rcases h2 with h2|⟨j',e1,e2,e3⟩
     ·exact .inl (List.contains_iff_mem.2 h2)
     ·refine .inr ⟨j',?_,?_⟩
      ·rcases Nat.lt_or_ge j' l.length with h|h
       ·exact List.mem_range.2 h
       ·rw[hlast j' h] at e1;cases e1
      ·rw[List.contains_iff_mem.2 e1,e3,show(j' !=j)=true by simpa using e2];rfl
    rw[this] at hc;cases hc
   |false=>exact hk2 i v w w' hfi hb0 hF hR
  ·exact hk1 i v w w' hF hR
theorem qgW {t:TypeId} {w':World} {r:Value} (ho:ops[i]?=some o) (hm:Met ops a o) (hop:o.op= .buildSlice t 0 #[])
 (hr:(Instr.buildSlice t 0 #[]).run P w= .ok r w') (hk:K (a.put o.dst r) w'):wpOp P ops Q i K a w:=by
 refine qan ho hm (v:=r) (w':=w') ?_ hk;simp[execOp,hop,hr,Result.andThen]
theorem qcQ (ho:ops[i]?=some o) (hm:Met ops a o) (h:Oper.wp P o a w K Q):wpOp P ops Q i K a w:=by
 unfold Met at hm;unfold wpOp;simp only[ho,hm,if_true];exact .inl h
theorem qcZ (ho:ops[i]?=some o) (hm:Met ops a o)
 (h:if Region.wanted o (yielded ops a.tmps)=true then Oper.wp P o a w K Q else False):wpOp P ops Q i K a w:=by
 have hm':=hm;unfold Met at hm;rw[if_pos hm] at h;exact qcQ ho hm' h
end
end Go.Proofs.YtdeimnnpcfncpaaGreatDoor
end
section
namespace Go.Proofs.YtdeimnnpcfncpaaGreatDoor.X
open Go Go.RowKit
theorem qib {s:Smp} (h:qaI s=false):qbK s=(239,[]):=by
 unfold qbK;rw[h];rfl
theorem qiV (ls:List Lb) (n:List UInt8):qaV (qcy ls n) n=[]:=by
 unfold qaV qcy;rw[List.find?_eq_none.2 (fun x hx=>?_)];have:=(List.mem_filter.1 hx).2;simpa using this
theorem qh1 (ls:List Lb) (b:Nat) (st:Bool) (t:Int):qaI ⟨qcy ls qag,b,st,t⟩=false:=by
 show(qav (qcy ls qag)&&(qaj 58 (qaV (qcy ls qag) qag)&&_))=false;rw[qiV,show qaj 58 []=false from rfl,Bool.false_and,Bool.and_false]
theorem qpw (n:Nat) (hn:128<n) (x:UInt8):qaj 58 (List.replicate n x)=false:=by
 unfold qaj;rw[List.length_replicate,show decide (n≤128)=false from dF (by omega),Bool.and_false,Bool.false_and]
def qqb:List (List UInt8):=[[57],[97,32,98],[195,169],List.replicate 129 120]
theorem qdV (v:List UInt8) (h:v∈qqb):qaj 58 v=false∧v≠[]∧v.length≤129∧qbS (qag,v)=0:=by
 unfold qqb at h;simp only[List.mem_cons,List.not_mem_nil,or_false] at h;rcases h with rfl|rfl|rfl|rfl
 ·exact⟨by decide,by decide,by decide,by decide+kernel⟩
 ·exact⟨by decide,by decide,by decide,by decide+kernel⟩
 ·exact⟨by decide,by decide,by decide,by decide+kernel⟩
 ·exact⟨qpw 129 (by decide) 120,by simp,by rw[List.length_replicate];exact Nat.le_refl _,by decide+kernel⟩
theorem qjA {ls r:List Lb} {v:List UInt8} (hr:qav ls=true) (hv:v∈qqb) (h:qqe ls [(qag,v)] r) (b:Nat) (st:Bool) (t:Int):qaI ⟨r,b,st,t⟩=false:=by
 obtain⟨h1,h2,_,_⟩:=qdV v hv;obtain⟨s1,s2,s3⟩:=qez hr h2 h;have hg:qaV r qag=v:=qkk s1 ((s2 (qag,v)).2 (.inl rfl));show(qav r&&(qaj 58 (qaV r qag)&&_))=false;rw[hg,h1,Bool.false_and,Bool.and_false]
theorem qge (ls:List Lb) (n:List UInt8) (b:Nat) (st:Bool) (t:Int):qaI ⟨ls++[(n,[])],b,st,t⟩=false:=by
 have:qav (ls++[(n,[])])=false:=by
  rw[←Bool.not_eq_true,qaW];rintro⟨_,h2,_⟩;have:=(h2 (n,[]) (by simp)).2;simp[emp] at this
 show(qav (ls++[(n,[])])&&_)=false;rw[this,Bool.false_and]
theorem qij (ls:List Lb) (b:Nat) (t:Int) (h:t≠0):qaI ⟨ls,b,false,t⟩=false:=by
 show(qav ls&&(qaj 58 (qaV ls qag)&&(_&&(false||(t==0)))))=false;rw[show(t==0)=false from beq_eq_false_iff_ne.2 h,Bool.false_or,Bool.and_false,Bool.and_false,Bool.and_false]
theorem qh3 (ls:List Lb) (k:Nat) (hk:k<256) (st:Bool) (t:Int):qaI ⟨ls,9221120237041090562+k,st,t⟩=false:=by
 have h1:Go.Proofs.YtdeimnnpcfncpaaGreatDoor.kindN (9221120237041090562+k)=4:=by
  unfold Go.Proofs.YtdeimnnpcfncpaaGreatDoor.kindN;rw[if_pos (by omega),if_neg (by omega)]
 show(qav ls&&(qaj 58 (qaV ls qag)&&((!(Go.Proofs.YtdeimnnpcfncpaaGreatDoor.kindN (9221120237041090562+k)==4)||(9221120237041090562+k==9221120237041090561))&&_)))=false;rw[h1,show(9221120237041090562+k==9221120237041090561)=false from beq_eq_false_iff_ne.2 (by omega)];simp
end Go.Proofs.YtdeimnnpcfncpaaGreatDoor.X
end
section
namespace Go.Proofs.YtdeimnnpcfncpaaGreatDoor
open Go Go.RowKit Go.Shelf
def RowK (k:Nat) (W:World) (v:Value) (n:Nat) (xs:List Value):Prop:=
 xs.length=n*k∧((∃a c,(a=none→c=0)∧v= .slice a 0 c∧n=0)∨ ∃b off cap,v= .slice (some ⟨b,off,none⟩) n cap∧b<W.heap.size∧n≤cap∧cap≤maxLen∧ ∀j u,xs[j]?=some u→W.cell? ⟨b,off+j,none⟩=some u)
theorem RowK.on {k:Nat} {W W':World} {v:Value} {n:Nat} {xs:List Value} (h:RowK k W v n xs) (hb:Below W.heap.size W W'):RowK k W' v n xs:=by
 refine⟨h.1,?_⟩;rcases h.2 with h2|⟨b,off,cap,h2,h3,h4,h5,h6⟩
 ·exact .inl h2
 ·exact .inr ⟨b,off,cap,h2,Nat.lt_of_lt_of_le h3 hb.size,h4,h5,fun j u hj=>(hb.cell (p:=⟨b,off+j,none⟩) h3).trans (h6 j u hj)⟩
theorem RowK.take {k:Nat} {W:World} {a:Option Addr} {n c m:Nat} {xs:List Value} (h:RowK k W (.slice a n c) n xs) (hm:m≤n):RowK k W (.slice a m c) m (xs.take (m*k)):=by
 refine⟨by rw[List.length_take,h.1];exact Nat.min_eq_left (Nat.mul_le_mul_right k hm),?_⟩;rcases h.2 with ⟨a',c',h1,e,rfl⟩|⟨b,off,cap,hv,h1,h2,h3,hc⟩
 ·cases e;exact .inl ⟨a,c,h1,by rw[show m=0 by omega],by omega⟩
 ·cases hv;refine .inr ⟨b,off,c,rfl,h1,by omega,h3,fun j u hj=>hc j u ?_⟩;rw[List.getElem?_take] at hj
  split at hj
  ·exact hj
  ·cases hj
theorem RowK.drop {k:Nat} {W:World} {a:Option Addr} {n c m:Nat} {xs:List Value} (h:RowK k W (.slice a n c) n xs) (hm:m≤n):RowK k W (.slice (if c=m then a else a.map (·.add (m*k))) (n - m) (c - m)) (n - m) (xs.drop (m*k)):=by
 refine⟨by rw[List.length_drop,h.1,Nat.sub_mul],?_⟩;rcases h.2 with ⟨a',c',h1,e,rfl⟩|⟨b,off,cap,hv,h1,h2,h3,hc⟩
 ·cases e;have hm0:m=0:=by omega
  subst hm0;refine .inl ⟨_,_,fun h=>?_,by rw[Nat.sub_zero],rfl⟩
  split at h
  ·rename_i e;rw[e]
  ·cases a with
   |none=>rw[h1 rfl]
   |some x=>cases h
 ·cases hv
  by_cases hlt:m=n
  ·subst hlt;rw[Nat.sub_self];refine .inl ⟨_,_,fun h=>?_,rfl,rfl⟩
   split at h
   ·cases h
   ·cases h
  ·refine .inr ⟨b,off+m*k,c - m,?_,h1,by omega,by unfold maxLen at*;omega,fun j u hj=>?_⟩
   ·rw[if_neg (by omega)];simp[Addr.add]
   ·rw[List.getElem?_drop] at hj;rw[show off+m*k+j=off+(m*k+j) by omega];exact hc _ u hj
section
variable {P:Program} {ops:Array Oper} {Q:Exit→Act→World→Prop} {a:Act} {w:World} {K:Act→World→Prop} {i:Nat} {o:Oper}
theorem qey {k:Nat} (hk0:0<k) {x y:Operand} {t:TypeId} {e:TypeId} {z:Value} {bytes base b m:Nat} (ho:ops[i]?=some o) (hg:o.guard=none) (hop:o.op= .call {callee:= .builtin .append,args:=#[x,y],argTypes:=#[t,t]})
 (ht:P.underlying t=some (.slice e)) (hinfo:(P.info? e).map (fun i=>(i.zero,i.size,i.bytes))=some (some z,k,bytes)) (hzs:z.cells.size=k)
 (u:Value) (news:List Value) (hx:a.eval x= .slice (some ⟨b,0,none⟩) 0 0) (hown:w.ownsRow base e k (.slice (some ⟨b,0,none⟩) 0 0) 0 []) (hy:a.eval y=u) (hrow:RowK k w u m news) (hone: ∀c∈news,c.oneCell'=true)
 (hb1:1≤bytes) (hbytes:m*bytes≤140737488355328) (hbase:base≤w.heap.size)
 (hk: ∀v' w',w'.ownsRow base e k v' m news→Below w.heap.size w w'→K (a.put o.dst v') w'):wpOp P ops Q i K a w:=by
 obtain⟨inf,hi,hz0,hz1,hz2⟩:=info_parts hinfo;have hn:m≤m*bytes:=Nat.le_mul_of_pos_right _ hb1
 have hob: ∀{v':Value} {w':World} {n:Nat} {xs:List Value},w'.ownsRow w.heap.size e k v' n xs→w'.ownsRow base e k v' n xs:=fun h=>⟨h.1,by
  rcases h.2 with h'|⟨g,cap,cur,h1,h2,h3⟩
  ·exact .inl h'
  ·exact .inr ⟨g,cap,cur,h1,Nat.le_trans hbase h2,h3⟩⟩
 by_cases h0:m=0
 ·subst h0;have hnil:news=[]:=List.eq_nil_of_length_eq_zero (by rw[hrow.1,Nat.zero_mul]);subst hnil
  obtain⟨a',c',hac,rfl⟩: ∃a c,(a=none→c=0)∧u= .slice a 0 c:=by
   rcases hrow.2 with ⟨a',c',h1,h2,_⟩|⟨b2,off,cap,h1,_⟩
   ·exact⟨a',c',h1,h2⟩
   ·exact⟨_,cap,(fun h=>by cases h),h1⟩
  cases a' with
  |none=>
   rw[hac rfl] at hy;have hrun:=run_append_owned_none (P:=P) (w:=w) base t o.type e inf k ht hi _ 0 [] hown;refine qcQ ho (qab hg) ?_;unfold Oper.wp;simp[execOp,hop,resolve,invoke,builtin,hx,hy,hrun,Result.andThen];exact hk _ w hown (Below.refl _ _)
  |some ad=>
   refine qcZ ho (qab hg) ?_;refine step_append_room hg x y t hop e inf k ht hi hz1 b 0 0 0 hx ad 0 c' [] hy (by simp) (by simp) (by simp) (by omega) (by simp) ?_;rw[show w.setCells b (0+0*k) []=w by simp[World.setCells]];exact hk _ w hown (Below.refl _ _)
 ·obtain⟨b2,off2,cap2,hu,hlt2,h1,h2,hc⟩: ∃b off cap,u= .slice (some ⟨b,off,none⟩) m cap∧b<w.heap.size∧m≤cap∧cap≤maxLen∧ ∀j y,news[j]?=some y→w.cell? ⟨b,off+j,none⟩=some y:=by
   rcases hrow.2 with ⟨_,_,_,_,h⟩|h
   ·exact absurd h h0
   ·exact h
  subst hu;refine qcZ ho (qab hg) ?_;refine step_append_grows hg x y t hop e inf z k bytes ht hi hz0 hz1 hz2 hzs hk0 (some ⟨b,0,none⟩) 0 0 [] hx (fun e=>by cases e) (by simp) ?_ ⟨b2,off2,none⟩ m cap2 news hy hrow.1 ?_ hone (by omega) (by unfold maxLen;omega) (by rw[Nat.zero_add];exact hbytes) ?_
  ·intro p _ j u hj;simp at hj
  ·intro j u hj;rw[show(⟨b2,off2,none⟩:Addr).add j=⟨b2,off2+j,none⟩ by simp[Addr.add]];exact hc j u hj
  ·intro v' w' hown' hgr;exact hk v' w' (hob (by simpa using hown')) ((Below.refl _ _).grown hgr (Nat.le_refl _) (fun k e=>by cases e))
theorem qcp {k:Nat} (hk0:0<k) {x y:Operand} {t e:TypeId} {z:Value} {bytes base n m:Nat} (ho:ops[i]?=some o) (hg:o.guard=none) (hop:o.op= .call {callee:= .builtin .append,args:=#[x,y],argTypes:=#[t,t]})
 (ht:P.underlying t=some (.slice e)) (hinfo:(P.info? e).map (fun i=>(i.zero,i.size,i.bytes))=some (some z,k,bytes)) (hzs:z.cells.size=k)
 (v u:Value) (xs news:List Value) (hx:a.eval x=v) (hown:w.ownsRow base e k v n xs) (hy:a.eval y=u) (hrow:RowK k w u m news) (hone: ∀c∈news,c.oneCell'=true)
 (hb1:1≤bytes) (hbytes:(n+m)*bytes≤140737488355328) (hbase:base≤w.heap.size)
 (hk: ∀v' w',w'.ownsRow base e k v' (n+m) (xs++news)→Below base w w'→(∀row,v.ownBlock≠some row→row<w.heap.size→w'.heap[row]?=w.heap[row]?)→K (a.put o.dst v') w'):wpOp P ops Q i K a w:=by
 obtain⟨inf,hi,hz0,hz1,hz2⟩:=info_parts hinfo;have hn:n+m≤(n+m)*bytes:=Nat.le_mul_of_pos_right _ hb1;refine qcQ ho (qab hg) ?_
 have go: ∀(ad:Addr) (c:Nat),u= .slice (some ad) m c→(∀j y,news[j]?=some y→w.cell? (ad.add j)=some y)→o.wp P a w K Q:=by
  intro ad c hu hc;subst hu;obtain⟨v',w',hrun,r1,r2,_⟩:=run_append_own (P:=P) w base t o.type e inf z k bytes ht hi hz0 hz1 hz2 hzs hk0 v n xs hown ad m c news hrow.1 hc hone (by unfold maxLen;omega) hbytes hbase;unfold Oper.wp;simp[execOp,hop,resolve,invoke,builtin,hx,hy,hrun,Result.andThen];exact hk v' w' r1 ((Below.refl base w).grown r2 hbase (fun k e'=>(hown.lt k e').1)) (fun row h1 h2=>r2.block row h2 (fun e'=>h1 e'.symm))
 rcases hrow.2 with ⟨a',c',hac,h2,h3⟩|⟨b,off,cap,h1,hlt,h2,h3,hc⟩
 ·subst h3;have hnil:news=[]:=List.eq_nil_of_length_eq_zero (by rw[hrow.1,Nat.zero_mul])
  cases a' with
  |none=>
   subst h2;rw[hac rfl] at hy;have hrun:=run_append_owned_none (P:=P) (w:=w) base t o.type e inf k ht hi v n xs hown;unfold Oper.wp;simp[execOp,hop,resolve,invoke,builtin,hx,hy,hrun,Result.andThen];exact hk v w (by rw[hnil,List.append_nil];exact hown) (Below.refl _ _) (fun _ _ _=>rfl)
  |some ad=>exact go ad c' h2 (by intro j y hj;rw[hnil] at hj;simp at hj)
 ·refine go ⟨b,off,none⟩ cap h1 (fun j y hj=>?_);rw[show(⟨b,off,none⟩:Addr).add j=⟨b,off+j,none⟩ by simp[Addr.add]];exact hc j y hj
end
end Go.Proofs.YtdeimnnpcfncpaaGreatDoor
end
