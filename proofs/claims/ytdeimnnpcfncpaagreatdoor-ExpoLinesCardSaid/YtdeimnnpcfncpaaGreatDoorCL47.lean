/- Parts of the proof: V4 R0 RJ R2. -/
import Derived.Deep.RegionLawGrows
import Derived.Test.YtdeimnnpcfncpaaGreatDoorCL45
import Derived.Test.YtdeimnnpcfncpaaGreatDoorCL46
set_option linter.unusedVariables false
set_option linter.unusedSimpArgs false
set_option maxRecDepth 100000
set_option maxHeartbeats 64000000
section
namespace Go.Proofs.YtdeimnnpcfncpaaGreatDoor.X
open Go Go.RowKit
theorem qoy (c:List UInt8): ∀ls:List Lb,(ls.map Prod.fst).Nodup→ ∀x∈ls.eraseP (fun x=>x.1==c),x.1≠c
 | [],_,x,hx=>by cases hx
 |y::t,h,x,hx=>by
  obtain⟨h1,h2⟩:=List.nodup_cons.1 (by simpa using h:(y.1::t.map Prod.fst).Nodup)
  by_cases hy:(y.1==c)=true
  ·rw[List.eraseP_cons_of_pos (p:=fun x:Lb=>x.1==c) hy] at hx;rw[←eq_of_beq hy];intro e;exact h1 (List.mem_map.2 ⟨x,hx,e⟩)
  ·rw[List.eraseP_cons_of_neg (p:=fun x:Lb=>x.1==c) hy] at hx;rcases List.mem_cons.1 hx with rfl|hx
   ·intro e;exact hy (by rw[e];exact beq_self_eq_true _)
   ·exact qoy c t h2 x hx
def MdL (ls:List Lb):Prop:=(ls.map Prod.fst).Nodup∧ ∀x∈ls,x.1∈qbz∧x.2∈qdB
theorem qrj {ls:List Lb} {y:Lb} (h:MdL ls) (hy:y.1∈qbz∧y.2∈qdB):MdL (mdS ls y):=by
 unfold mdS;refine⟨?_,fun x hx=>?_⟩
 ·rw[List.map_append,List.nodup_append];refine⟨List.Nodup.sublist ((List.eraseP_sublist ..).map _) h.1,by simp,?_⟩;intro a ha b hb;obtain⟨x,hx,rfl⟩:=List.mem_map.1 ha;simp at hb;rw[hb];exact qoy y.1 ls h.1 x hx
 ·rcases List.mem_append.1 hx with hx|hx
  ·exact h.2 x (List.mem_of_mem_eraseP hx)
  ·rw[List.mem_singleton] at hx;subst hx;exact hy
theorem qdH {l:List (List UInt8)} {i:Nat} (h:i<l.length):l.getD i []∈l:=by
 rw[List.getD_eq_getElem?_getD,List.getElem?_eq_getElem h,Option.getD_some];exact List.getElem_mem h
theorem qsY (q:Nat×Nat):(mkL q).1∈qbz∧(mkL q).2∈qdB:=
 ⟨qdH (by show _<16;exact Nat.mod_lt _ (by decide)),qdH (by show _<8;exact Nat.mod_lt _ (by decide))⟩
theorem qih: ∀(qs:List (Nat×Nat)) (ls:List Lb),MdL ls→MdL (qs.foldl (fun out q=>mdS out (mkL q)) ls)
 | [],_,h=>h
 |q::t,ls,h=>qih t _ (qrj h (qsY q))
theorem qob (qs:List (Nat×Nat)):MdL (mdF qs):=qih _ _ ⟨by simp,by simp⟩
theorem qkm {α:Type} [BEq α] [LawfulBEq α]: ∀(l m:List α),l.Nodup→(∀x∈l,x∈m)→l.length≤m.length
 | [],_,_,_=>Nat.zero_le _
 |x::t,m,h,hs=>by
  obtain⟨h1,h2⟩:=List.nodup_cons.1 h;have hx:=hs x (List.mem_cons_self ..);have:=qkm t (m.erase x) h2 (fun y hy=>(List.mem_erase_of_ne (fun e=>h1 (by rw[←e];exact hy))).2 (hs y (List.mem_cons_of_mem _ hy)));rw[List.length_erase_of_mem hx] at this;have:=List.length_pos_of_mem hx;simp only[List.length_cons];omega
theorem qpn:(qbz.all fun n=>qdB.all fun v=>qb8 (n,v)==0)=true:=by decide+kernel
theorem qrp {x:Lb} (h:x.1∈qbz∧x.2∈qdB):qb8 x=0:=by
 have:=List.all_eq_true.1 (List.all_eq_true.1 qpn x.1 h.1) x.2 h.2;simpa using this
theorem qhQ: ∀ls:List Lb,(∀x∈ls,qb8 x=0)→qaS ls=0
 | [],_=>rfl
 |x::t,h=>by
  unfold qaS;rw[if_pos (h x (List.mem_cons_self ..))];exact qhQ t (fun y hy=>h y (List.mem_cons_of_mem _ hy))
theorem qgr:(qbz.all fun n=>decide (n.length≤19))=true:=by decide+kernel
theorem qhK:(qdB.all fun n=>decide (n.length≤3))=true:=by decide+kernel
theorem qs4 (qs:List (Nat×Nat)): ∃r,ofF (mdF qs)=(0,r)∧qaO r=true∧r.length≤16∧(∀x∈r,x.1.length≤19∧x.2.length≤10):=by
 obtain⟨h1,h2⟩:=qob qs;have hf:=qhQ (mdF qs) (fun x hx=>qrp (h2 x hx));have ht:=(qaV _).2 h1
 have hl:(mdF qs).length≤16:=by
  have:=qkm ((mdF qs).map Prod.fst) qbz h1 (fun x hx=>by obtain⟨y,hy,rfl⟩:=List.mem_map.1 hx;exact(h2 y hy).1);rw[List.length_map] at this;exact this
 have hsl: ∀ls:List Lb,(srt ls).length=ls.length:=by
  intro ls
  induction ls with
  |nil=>rfl
  |cons x t ih=>
   have hi: ∀(x:Lb) (l:List Lb),(qlM x l).length=l.length+1:=by
    intro x l
    induction l with
    |nil=>rfl
    |cons y t ih=>unfold qlM;split<;>simp[ih]
   show(qlM x (srt t)).length=_;rw[hi,ih];rfl
 have hle:((srt (mdF qs)).filter (fun x=>!emp x)).length≤16:=by
  have:=List.length_filter_le (fun x=>!emp x) (srt (mdF qs));rw[hsl] at this;omega
 have e:ofF (mdF qs)=(0,(srt (mdF qs)).filter (fun x=>!emp x)):=by
  unfold ofF;rw[if_pos hf,ht,if_neg (by decide),if_neg (by omega)]
 obtain⟨r1,r2⟩:=qgF e;refine⟨_,e,r1,hle,fun x hx=>?_⟩;have hx2:=h2 x ((r2 x).1 hx).1;have a1:=List.all_eq_true.1 qgr x.1 hx2.1;have a2:=List.all_eq_true.1 qhK x.2 hx2.2;simp at a1 a2;exact⟨a1,by omega⟩
def upL:List (List UInt8):=[[117,112],[97],[104,116,116,112,95,116,111,116,97,108],[97,58,98],[120],[108,101],[95],[122,57]]
theorem qsK:(upL.all fun v=>qak 58 v&&qbk v&&decide (v.length≤10))=true:=by decide+kernel
theorem qjp {v:List UInt8} (h:v∈upL):qak 58 v=true∧qbk v=true∧v.length≤10:=by
 have:=List.all_eq_true.1 qsK v h;simp at this;exact⟨this.1.1,this.1.2,this.2⟩
theorem qiI (a:Nat) (ha:a<18446744073709551616) (hn:Go.Proofs.YtdeimnnpcfncpaaGreatDoor.kindN a≠4∨a=9221120237041090561):qnZ (qai a):=by
 rcases Bool.eq_false_or_eq_true (qdD a)with h|h
 ·have e:a=9221120237041090561:=by
   rcases hn with h'|h'
   ·exact absurd ((qlO a ha).2 h) h'
   ·exact h'
  subst e;exact qei (.inl (by decide+kernel))
 ·intro w hG;refine(qno a ha h w hG.b).mono ?_;rintro x w' ⟨rfl,hB⟩;exact⟨a,0,rfl,.inl ⟨rfl,qeO a ha (.inl h)⟩,hB⟩
theorem qiN (s:Smp) (hb:s.bits<18446744073709551616) (hr:qaT s=true):qct (qaC s)=qai s.bits:=by
 obtain⟨r1,r2,r3,r4⟩:=qaJ hr;obtain⟨q1,q2,q3⟩:=(qaH _).1 r1;obtain⟨n1,n2,n3⟩:=qaR r2;obtain⟨⟨e1,e2,e3⟩,e4⟩:=qcU s.bits hb;have hnb: ∀c∈qaF s.ls qah,nb c=true:=fun c hc=>qhL (by decide) (n2 c hc)
 have htx: ∀u,tb (32::(qai s.bits++u))=qai s.bits++u:=fun u=>by
  rw[qfR 32 _ (by decide),qcC _ _ e1 e2]
 have hx123: ∀u,¬((qai s.bits++u).head?==some 123)=true:=fun u=>by
  cases hx:qai s.bits with
  |nil=>exact absurd hx e1
  |cons c t=>
   have:=e3 c (by rw[hx];exact List.mem_cons_self ..);simpa using this
 have hw:wd (qai s.bits++(if s.st then 32::Lib.itoa s.t else []))=qai s.bits:=by
  refine(qkT _ _ e2 fun c hc=>?_).1
  cases hs:s.st with
  |false=>rw[hs] at hc;cases hc
  |true=>rw[hs] at hc;cases hc;decide
 by_cases ho:s.ls.filter (fun x=>!(x.1==qah))=[]
 ·have hT:qaC s=qaF s.ls qah++(32::(qai s.bits++(if s.st then 32::Lib.itoa s.t else []))):=by
   unfold qaC;dsimp only;rw[ho];rfl
  obtain⟨m1,m2⟩:=qgc 58 (qaF s.ls qah) (32::(qai s.bits++(if s.st then 32::Lib.itoa s.t else []))) n2 (fun c hc=>by cases hc;decide);rw[←hT] at m1 m2;have ht:tb (qaC s)=qaC s:=by rw[hT];exact qcC _ _ n1 hnb
  unfold qct;rw[ht,m2,htx,if_neg (hx123 _),qcC _ _ e1 e2,hw]
 ·have hT:qaC s=qaF s.ls qah++(123::(qbj ((s.ls.filter (fun x=>!(x.1==qah))).map lbT)++125::(32::(qai s.bits++(if s.st then 32::Lib.itoa s.t else []))))):=by
   unfold qaC;dsimp only;rw[if_neg ho];simp
  obtain⟨m1,m2⟩:=qgc 58 (qaF s.ls qah) (123::(qbj ((s.ls.filter (fun x=>!(x.1==qah))).map lbT)++125::(32::(qai s.bits++(if s.st then 32::Lib.itoa s.t else []))))) n2 (fun c hc=>by cases hc;decide);rw[←hT] at m1 m2;have ht:tb (qaC s)=qaC s:=by rw[hT];exact qcC _ _ n1 hnb
  have hg:=qgh (s.ls.filter (fun x=>!(x.1==qah))) (32::(qai s.bits++(if s.st then 32::Lib.itoa s.t else []))) ho
   (fun x hx=>qd9 (q2 x (List.mem_filter.1 hx).1).1) (fun x hx=>by have:=(List.mem_filter.1 hx).2;simpa using this) (qcL _ (q3.filter _))
  unfold qct;rw[ht,m2,qb6 123 _ (by decide),if_pos (by rfl),List.tail_cons,hg];show wd (tb (32::_))=_;rw[htx,hw]
theorem qd7: ∀(f:Nat) (l:List UInt8) (out:List Lb),(qfD f l out).2.2.length≤l.length
 |0,l,out=>Nat.zero_le _
 |f+1,l,out=>by
  rw[qfD]
  split
  ·show l.tail.length≤_;rw[List.length_tail];omega
  ·split
   ·have h1:=qjO 95 l;have h2:=qaW (nr 95 l);have h3:=qaW (tb (nr 95 l)).tail;rw[List.length_tail] at h3
    cases hq:quo (tb (tb (nr 95 l)).tail)with
    |none=>exact Nat.zero_le _
    |some vr=>
     obtain⟨v,u⟩:=vr;obtain⟨q1,q2⟩:=qqV hq;have h4:=qaW u;dsimp only
     split
     ·exact Nat.zero_le _
     ·split
      ·have h5:=qaW (tb u).tail;rw[List.length_tail] at h5;have:=qd7 f (tb (tb u).tail) (out++[(nm 95 l,v)]);omega
      ·split
       ·have:=qd7 f (tb u) (out++[(nm 95 l,v)]);omega
       ·exact Nat.zero_le _
   ·exact Nat.zero_le _
theorem qoj (l:List UInt8):(wd l).length≤l.length:=(List.takeWhile_prefix _).length_le
theorem qix (l:List UInt8):(qct l).length≤l.length:=by
 have a1:=qaW l;have a2:=qjO 58 (tb l);have a3:=qaW (nr 58 (tb l));unfold qct
 split
 ·have b1:=qd7 ((tb (nr 58 (tb l))).tail.length+1) (tb (tb (nr 58 (tb l))).tail) [];have b2:=qaW (tb (nr 58 (tb l))).tail;rw[List.length_tail] at b2;have b3:=qaW (qbX (tb (nr 58 (tb l))).tail).2.2;have b4:=qoj (tb (qbX (tb (nr 58 (tb l))).tail).2.2)
  change (qbX (tb (nr 58 (tb l))).tail).2.2.length≤_ at b1
  omega
 ·have b2:=qaW (tb (nr 58 (tb l)));have b4:=qoj (tb (tb (nr 58 (tb l))));omega
end Go.Proofs.YtdeimnnpcfncpaaGreatDoor.X
end
section
namespace Go.Proofs.YtdeimnnpcfncpaaGreatDoor
open Go Go.RowKit Go.Shelf
section
variable {P:Program} {ops:Array Oper} {Q:Exit→Act→World→Prop} {a:Act} {w:World} {K:Act→World→Prop} {i:Nat} {o:Oper}
theorem qhl {ops:Array Oper} {md:Region.Mode} (hlow: ∀(i:Nat) (o:Oper),ops[i]?=some o→ ∀e∈o.after,Region.binds md e=true→e.on<i) (listed:Array Bool) (hsz:listed.size=ops.size) (hr:Region.ready md ops listed=[]):
 ∀i,i<ops.size→listed.getD i false=true:=by
 intro i
 induction i using Nat.strongRecOn with
 |_ i ih=>
  intro hi
  by_cases hl:listed.getD i false=true
  ·exact hl
  ·exfalso
   have hm:i∈Region.ready md ops listed:=by
    rw[mem_ready];have hi':i<listed.size:=by omega
    refine⟨by simpa [hi'] using hl,ops[i],by simp[hi],fun e he hb=>ih _ (hlow i ops[i] (by simp[hi]) e he hb) ?_⟩;have:=hlow i ops[i] (by simp[hi]) e he hb;omega
   rw[hr] at hm;cases hm
def waits (l:List Oper) (j:Nat):List Nat:=match l[j]? with|some o=>(o.after.toList.filter (fun e=>Region.binds .any e)).map (·.on)|none=>[]
def reach (l:List Oper):Nat→Nat→List Nat
 |0,_=>[]
 |f+1,j=>waits l j++(waits l j).flatMap (reach l f)
theorem qdx {l:List Oper} {listed:Nat→Bool} (hcl: ∀i,listed i=true→ ∀k,(waits l i).contains k=true→listed k=true): ∀f i,listed i=true→ ∀k,(reach l f i).contains k=true→listed k=true:=by
 intro f
 induction f with
 |zero=>intro i _ k h;simp[reach] at h
 |succ f ih=>
  intro i hi k h;rw[List.contains_iff_mem,reach,List.mem_append,List.mem_flatMap] at h;rcases h with h|⟨j,hj,h⟩
  ·exact hcl i hi k (List.contains_iff_mem.2 h)
  ·exact ih j (hcl i hi j (List.contains_iff_mem.2 hj)) k (List.contains_iff_mem.2 h)
theorem qep {id:Nat} {l:List Oper} {a0:Act} {w0:World} (needs:Nat→List Nat) (fin:List Nat) (F:Nat→Value→World→Prop) (R:Nat→World→World→Prop)
 (hm:P.follows .mixedOrders=true)
 (hlow:(List.range l.length).all (fun i=>((l[i]?).map fun o=>o.after.all fun e=>!(Region.binds .any e)||decide (e.on<i)).getD true)=true)
 (hdist:(l.map (·.dst)).Pairwise (· ≠ ·))
 (hdst:l.all (fun o=>(o.dst.map fun d=>decide (d<a0.tmps.size)).getD false)=true)
 (hneeds:(List.range l.length).all (fun j=>(needs j).all fun i=>(waits l j).contains i)=true)
 (hR: ∀j w w',Below w0.heap.size w0 w→R j w w'→Below w0.heap.size w0 w')
 (hkeep: ∀i j v w w',i<l.length→j<l.length→i≠j→(reach l l.length i).contains j=false→(i∈fin∨ ∃j',i∈needs j'∧j'≠j∧(reach l l.length j).contains j'=false)→Below w0.heap.size w0 w→F i v w→R j w w'→F i v w')
 (hstep: ∀j o,l[j]?=some o→ ∀a w,Below w0.heap.size w0 w→(∀t,(∀o∈l,o.dst≠some t)→a.tmps.getD t undef=a0.tmps.getD t undef)→
   (∀i∈needs j,∀o',l[i]?=some o'→F i (qaE a o') w)→
   wpOp P l.toArray Q j (fun a' w'=> ∃v,a'=a.put o.dst v∧R j w w'∧F j v w') a w)
 (hend: ∀a w,Below w0.heap.size w0 w→(∀i∈fin,∀o,l[i]?=some o→F i (qaE a o) w)→a=l.foldl (qat a) a0→Q .normal a w):
 (Code.region id l.toArray true).wp P Q a0 w0:=by
 refine wp_region_any hm ?_
 have hlow': ∀(i:Nat) (o:Oper),l.toArray[i]?=some o→ ∀e∈o.after,Region.binds .any e=true→e.on<i:=by
  intro i o ho e he hb
  have hi:i<l.length:=by
   rcases Nat.lt_or_ge i l.length with h|h
   ·exact h
   ·simp[List.getElem?_eq_none h] at ho
  have:=List.all_eq_true.1 hlow i (List.mem_range.2 hi);simp at ho;rw[ho] at this;simp at this;obtain⟨k,hk,rfl⟩:=Array.mem_iff_getElem.1 he;have h2:=this k hk;rw[hb] at h2;simpa using h2
 have hwait: ∀(j:Nat) (o:Oper),l[j]?=some o→ ∀i,(waits l j).contains i=true↔ ∃e∈o.after,Region.binds .any e=true∧e.on=i:=by
  intro j o ho i;unfold waits;rw[ho];simp only[List.contains_iff_mem,List.mem_map,List.mem_filter];constructor
  ·rintro⟨e,⟨h1,h2⟩,h3⟩;exact⟨e,Array.mem_toList_iff.1 h1,h2,h3⟩
  ·rintro⟨e,h1,h2,h3⟩;exact⟨e,⟨Array.mem_toList_iff.2 h1,h2⟩,h3⟩
 have hdd: ∀(i j:Nat) oi oj t,l[i]?=some oi→l[j]?=some oj→oi.dst=some t→oj.dst=some t→i=j:=by
  intro i j oi oj t hi hj e1 e2;obtain⟨hi1,hi2⟩:=List.getElem?_eq_some_iff.1 hi;obtain⟨hj1,hj2⟩:=List.getElem?_eq_some_iff.1 hj;rw[List.pairwise_iff_getElem] at hdist;rcases Nat.lt_trichotomy i j with h|h|h
  ·exact absurd (by rw[List.getElem_map,List.getElem_map,hi2,hj2,e1,e2]) (hdist i j (by simpa) (by simpa) h)
  ·exact h
  ·exact absurd (by rw[List.getElem_map,List.getElem_map,hi2,hj2,e1,e2]) (hdist j i (by simpa) (by simpa) h)
 refine qer (I:=fun listed a w=>listed.size=l.length∧a.tmps.size=a0.tmps.size∧a.defers=a0.defers∧Below w0.heap.size w0 w∧(∀t,(∀o∈l,o.dst≠some t)→a.tmps[t]?=a0.tmps[t]?)∧
  (∀i,listed.getD i false=true→ ∀k,(waits l i).contains k=true→listed.getD k false=true)∧
  (∀i o,l[i]?=some o→listed.getD i false=true→(i∈fin∨ ∃j',i∈needs j'∧listed.getD j' false=false)→F i (qaE a o) w)) ?_ ?_ _ _ _ _ ?_ ?_
 ·rintro listed a w j ⟨h1,h2,h3,h4,h5,hcl,h6⟩ hj;obtain⟨hu,o,ho,haft⟩:=mem_ready.1 hj;have ho':l[j]?=some o:=by simpa using ho
  have hu':listed.getD j false=false:=by
   rw[Array.getD_eq_getD_getElem?] at hu⊢
   cases hc:listed[j]? with
   |none=>rfl
   |some b=>rw[hc] at hu;exact hu
  have hjl:j<l.length:=(List.getElem?_eq_some_iff.1 ho').1
  have hw: ∀k,(waits l j).contains k=true→listed.getD k false=true:=by
   intro k hk;obtain⟨e,he,hb,rfl⟩:=(hwait j o ho' k).1 hk;exact haft e he hb
  have hnd: ∀i∈needs j,(waits l j).contains i=true:=fun i hi=>by
   have:=List.all_eq_true.1 hneeds j (List.mem_range.2 hjl);exact List.all_eq_true.1 this i hi
  refine wpOp_mono ?_ (hstep j o ho' a w h4 (fun t ht=>by simp[h5 t ht]) (fun i hi o' hoe=>h6 i o' hoe (hw i (hnd i hi)) (.inr ⟨j,hi,hu'⟩)));rintro a' w' ⟨v,rfl,hRj,hF⟩;have hom:o∈l:=List.mem_of_getElem? ho';have hd:=List.all_eq_true.1 hdst o hom
  obtain⟨d,hod,hdlt⟩: ∃d,o.dst=some d∧d<a0.tmps.size:=by
   cases hx:o.dst with
   |none=>simp[hx] at hd
   |some d=>simp[hx] at hd;exact⟨d,rfl,hd⟩
  have hget: ∀i,i≠j→(listed.setIfInBounds j true).getD i false=listed.getD i false:=fun i hij=>getD_set_ne false (fun e=>hij e.symm)
  refine⟨by simp[h1],by rw[hod];simp[Act.put,h2],by rw[hod];simp[Act.put,h3],hR j w w' h4 hRj,fun t ht=>?_,?_,?_⟩
  ·have hne:d≠t:=fun e=>ht o hom (by rw[hod,e])
   rw[hod];simp only[Act.put];rw[Array.getElem?_setIfInBounds_ne hne];exact h5 t ht
  ·intro i hl k hk
   by_cases hkj:k=j
   ·subst hkj;have:k<listed.size:=by omega
    simp[this]
   ·rw[hget k hkj]
    by_cases hij:i=j
    ·subst hij;exact hw k hk
    ·rw[hget i hij] at hl;exact hcl i hl k hk
  ·intro i oi hi hl hwant
   by_cases hij:i=j
   ·subst hij;obtain rfl:o=oi:=Option.some.inj (ho'.symm.trans hi);have:qaE (a.put o.dst v) o=v:=by simp[qaE,hod,Act.put,h2,hdlt]
    rw[this];exact hF
   ·rw[hget i hij] at hl
    have hslot:qaE (a.put o.dst v) oi=qaE a oi:=by
     unfold qaE
     cases hoj:oi.dst with
     |none=>rfl
     |some t=>
      have hne:d≠t:=fun e=>hij (hdd i j oi o d hi ho' (by rw[hoj,e]) hod)
      rw[hod];simp[Act.put,Array.getElem?_setIfInBounds_ne hne]
    rw[hslot];have hil:i<l.length:=(List.getElem?_eq_some_iff.1 hi).1
    have hnw:(reach l l.length i).contains j=false:=by
     cases hc:(reach l l.length i).contains j with
     |false=>rfl
     |true=>have:=qdx (listed:=fun i=>listed.getD i false) hcl l.length i hl j hc;rw[hu'] at this;cases this
    rcases hwant with hw1|⟨j',hj1,hj2⟩
    ·exact hkeep i j _ w w' hil hjl hij hnw (.inl hw1) h4 (h6 i oi hi hl (.inl hw1)) hRj
    ·have hjj:j'≠j:=by
      intro e;subst e;have:j'<listed.size:=by omega
      simp[this] at hj2
     rw[hget j' hjj] at hj2
     have hnw2:(reach l l.length j).contains j'=false:=by
      cases hc:(reach l l.length j).contains j' with
      |false=>rfl
      |true=>
       exfalso;obtain⟨f,hf⟩: ∃f,l.length=f+1:=⟨l.length - 1,by omega⟩;rw[hf,List.contains_iff_mem,reach,List.mem_append,List.mem_flatMap] at hc;rcases hc with hc|⟨k,hk,hc⟩
       ·have:=hw j' (List.contains_iff_mem.2 hc);rw[hj2] at this;cases this
       ·have:=qdx (listed:=fun i=>listed.getD i false) hcl f k (hw k (List.contains_iff_mem.2 hk)) j' (List.contains_iff_mem.2 hc);rw[hj2] at this;cases this
     exact hkeep i j _ w w' hil hjl hij hnw (.inr ⟨j',hj1,hjj,hnw2⟩) h4 (h6 i oi hi hl (.inr ⟨j',hj1,hj2⟩)) hRj
 ·rintro listed a w ⟨h1,h2,h3,h4,h5,_,h6⟩ hr;have hal:=qhl hlow' listed (by simpa using h1) hr;refine hend a w h4 (fun i hi o ho=>h6 i o ho (hal i ?_) (.inl hi)) (qg7 a a0 l h2 h3 h5);have:=(List.getElem?_eq_some_iff.1 ho).1;simpa using this
 ·rw[show l.toArray.size=l.length by simp,Array.toList_replicate,qa7];exact Nat.le_trans (List.length_filter_le _ _) (by simp)
 ·refine⟨by simp,rfl,rfl,(Below.refl _ _).trans ⟨rfl,rfl,rfl,Nat.le_refl _,fun _ _=>rfl⟩,fun _ _=>rfl,fun i hl=>?_,fun i o ho hl=>?_⟩
  ·exfalso;rw[Array.getD_eq_getD_getElem?,Array.getElem?_replicate] at hl
   split at hl<;>cases hl
  ·have:=(List.getElem?_eq_some_iff.1 ho).1;simp[this] at hl
def clash (l:List Oper) (needs:Nat→List Nat) (fin:List Nat) (i j:Nat):Bool:=
 i !=j&&!((reach l l.length i).contains j)&&(fin.contains i||(List.range l.length).any fun j'=>(needs j').contains i&&j' !=j&&!((reach l l.length j).contains j'))
theorem qeF {id:Nat} {l:List Oper} {a0:Act} {w0:World} (needs:Nat→List Nat) (fin fr wr:List Nat) (F:Nat→Value→World→Prop)
 (hm:P.follows .mixedOrders=true)
 (hlow:(List.range l.length).all (fun i=>((l[i]?).map fun o=>o.after.all fun e=>!(Region.binds .any e)||decide (e.on<i)).getD true)=true)
 (hdist:(l.map (·.dst)).Pairwise (· ≠ ·))
 (hdst:l.all (fun o=>(o.dst.map fun d=>decide (d<a0.tmps.size)).getD false)=true)
 (hneeds:(List.range l.length).all (fun j=>(needs j).all fun i=>(waits l j).contains i)=true)
 (hlast: ∀j,l.length≤j→needs j=[])
 (hclash:(wr.all fun j=>fr.all fun i=>!(clash l needs fin i j))=true)
 (hk1: ∀i v w w',F i v w→Below w.heap.size w w'→F i v w')
 (hk2: ∀i v w w',fr.contains i=false→Below w0.heap.size w0 w→F i v w→Below w0.heap.size w w'→F i v w')
 (hstep: ∀j o,l[j]?=some o→ ∀a w,Below w0.heap.size w0 w→(∀t,(∀o∈l,o.dst≠some t)→a.tmps.getD t undef=a0.tmps.getD t undef)→
   (∀i∈needs j,∀o',l[i]?=some o'→F i (qaE a o') w)→
   wpOp P l.toArray Q j (fun a' w'=> ∃v,a'=a.put o.dst v∧(if wr.contains j then Below w0.heap.size w w' else Below w.heap.size w w')∧F j v w') a w)
 (hend: ∀a w,Below w0.heap.size w0 w→(∀i∈fin,∀o,l[i]?=some o→F i (qaE a o) w)→a=l.foldl (qat a) a0→Q .normal a w):
 (Code.region id l.toArray true).wp P Q a0 w0:=by
 refine qep needs fin F (fun j w w'=>if wr.contains j then Below w0.heap.size w w' else Below w.heap.size w w') hm hlow hdist hdst hneeds ?_ ?_ hstep hend
 ·intro j w w' h h2
  split at h2
  ·exact h.trans h2
  ·exact h.trans (h2.mono h.size)
 ·intro i j v w w' _ _ hij h1 h2 hb0 hF hR
  split at hR
  ·rename_i hwj
   cases hfi:fr.contains i with
   |true=>
    exfalso;have hc:=List.all_eq_true.1 (List.all_eq_true.1 hclash j (List.contains_iff_mem.1 hwj)) i (List.contains_iff_mem.1 hfi)
    have:clash l needs fin i j=true:=by
     unfold clash;rw[h1,show(i !=j)=true by simpa using hij];simp only[Bool.not_false,Bool.and_true,Bool.true_and,Bool.or_eq_true,List.any_eq_true];rcases h2 with h2|⟨j',e1,e2,e3⟩
     ·exact .inl (List.contains_iff_mem.2 h2)
     ·refine .inr ⟨j',?_,?_⟩
      ·rcases Nat.lt_or_ge j' l.length with h|h
       ·exact List.mem_range.2 h
       ·rw[hlast j' h] at e1;cases e1
      ·rw[List.contains_iff_mem.2 e1,e3,show(j' !=j)=true by simpa using e2];rfl
    rw[this] at hc;cases hc
   |false=>exact hk2 i v w w' hfi hb0 hF hR
  ·exact hk1 i v w w' hF hR
theorem qhF {t:TypeId} {w':World} {r:Value} (ho:ops[i]?=some o) (hm:Met ops a o) (hop:o.op= .buildSlice t 0 #[])
 (hr:(Instr.buildSlice t 0 #[]).run P w= .ok r w') (hk:K (a.put o.dst r) w'):wpOp P ops Q i K a w:=by
 refine qao ho hm (v:=r) (w':=w') ?_ hk;simp[execOp,hop,hr,Result.andThen]
theorem qlw {w:World} {b b' e n:Nat} {v:Value} {xs:List Value} (h:w.ownsRow b e 1 v n xs) (hb:b'≤b):w.ownsRow b' e 1 v n xs:=by
 refine⟨h.1,?_⟩;rcases h.2 with h'|⟨g,cap,cur,h1,h2,h3⟩
 ·exact .inl h'
 ·exact .inr ⟨g,cap,cur,h1,Nat.le_trans hb h2,h3⟩
theorem qdg (ho:ops[i]?=some o) (hm:Met ops a o) (h:Oper.wp P o a w K Q):wpOp P ops Q i K a w:=by
 unfold Met at hm;unfold wpOp;simp only[ho,hm,if_true];exact .inl h
theorem qdz (ho:ops[i]?=some o) (hm:Met ops a o)
 (h:if Region.wanted o (yielded ops a.tmps)=true then Oper.wp P o a w K Q else False):wpOp P ops Q i K a w:=by
 have hm':=hm;unfold Met at hm;rw[if_pos hm] at h;exact qdg ho hm' h
theorem qf1 {x y:Operand} {t:TypeId} {e:TypeId} {z:Value} {bytes base b:Nat} (ho:ops[i]?=some o) (hg:o.guard=none) (hop:o.op= .call {callee:= .builtin .append,args:=#[x,y],argTypes:=#[t,t]})
 (ht:P.underlying t=some (.slice e)) (hinfo:(P.info? e).map (fun i=>(i.zero,i.size,i.bytes))=some (some z,1,bytes)) (hzs:z.cells.size=1)
 (u:Value) (news:List Value) (hx:a.eval x= .slice (some ⟨b,0,none⟩) 0 0) (hown:w.ownsRow base e 1 (.slice (some ⟨b,0,none⟩) 0 0) 0 []) (hy:a.eval y=u) (hrow:Row w u news) (hone: ∀c∈news,c.oneCell'=true)
 (hb1:1≤bytes) (hbytes:news.length*bytes≤140737488355328) (hbase:base≤w.heap.size)
 (hk: ∀v' w',w'.ownsRow base e 1 v' news.length news→Below w.heap.size w w'→K (a.put o.dst v') w'):wpOp P ops Q i K a w:=by
 obtain⟨inf,hi,hz0,hz1,hz2⟩:=info_parts hinfo;have hn:news.length≤news.length*bytes:=Nat.le_mul_of_pos_right _ hb1
 by_cases h0:news=[]
 ·subst h0
  obtain⟨a',c',hac,rfl⟩: ∃a c,(a=none→c=0)∧u= .slice a 0 c:=by
   rcases hrow with ⟨a',c',h1,h2,_⟩|⟨b2,off,cap,h1,_⟩
   ·exact⟨a',c',h1,h2⟩
   ·exact⟨_,cap,(fun h=>by cases h),h1⟩
  cases a' with
  |none=>
   rw[hac rfl] at hy;have hrun:=run_append_owned_none (P:=P) (w:=w) base t o.type e inf 1 ht hi _ 0 [] hown;refine qdg ho (qae hg) ?_;unfold Oper.wp;simp[execOp,hop,resolve,invoke,builtin,hx,hy,hrun,Result.andThen];exact hk _ w hown (Below.refl _ _)
  |some ad=>
   refine qdz ho (qae hg) ?_;refine step_append_room hg x y t hop e inf 1 ht hi hz1 b 0 0 0 hx ad 0 c' [] hy (by simp) (by simp) (by simp) (by omega) (by simp) ?_;rw[show w.setCells b (0+0*1) []=w by simp[World.setCells]];exact hk _ w hown (Below.refl _ _)
 ·obtain⟨b2,off2,cap2,hu,hlt2,h1,h2,hc⟩: ∃b off cap,u= .slice (some ⟨b,off,none⟩) news.length cap∧b<w.heap.size∧news.length≤cap∧cap≤maxLen∧ ∀i (hi:i<news.length),w.cell? ⟨b,off+i,none⟩=some news[i]:=by
   rcases hrow with ⟨_,_,_,_,h⟩|h
   ·exact absurd h h0
   ·exact h
  subst hu;have hpos:0<news.length:=List.length_pos_iff.2 h0;refine qdz ho (qae hg) ?_;refine step_append_grows hg x y t hop e inf z 1 bytes ht hi hz0 hz1 hz2 hzs (by decide) (some ⟨b,0,none⟩) 0 0 [] hx (fun e=>by cases e) (by simp) ?_ ⟨b2,off2,none⟩ news.length cap2 news hy (by omega) ?_ hone (by omega) (by unfold maxLen;omega) (by simpa using hbytes) ?_
  ·intro p _ j u hj;simp at hj
  ·intro j u hj;obtain⟨hj',rfl⟩:=List.getElem?_eq_some_iff.1 hj;rw[show(⟨b2,off2,none⟩:Addr).add j=⟨b2,off2+j,none⟩ by simp[Addr.add]];exact hc j hj'
  ·intro v' w' hown' hgr;exact hk v' w' (qlw (by simpa using hown') hbase) ((Below.refl _ _).grown hgr (Nat.le_refl _) (fun k e=>by cases e))
theorem qqM {w:World} {a:Option Addr} {n c:Nat} {xs:List Value} (h:Row w (.slice a n c) xs):n≤c∧(1≤n→c≤maxLen):=by
 rcases h with ⟨a',c',_,e,rfl⟩|⟨b,off,cap,hv,h1,h2,h3,hc⟩
 ·cases e;exact⟨Nat.zero_le _,fun h=>by omega⟩
 ·cases hv;exact⟨h2,fun _=>h3⟩
theorem qnP {w:World} {a:Option Addr} {n c m:Nat} {xs:List Value} (h:Row w (.slice a n c) xs) (hm:m≤n):Row w (.slice a m c) (xs.take m):=by
 rcases h with ⟨a',c',h',e,rfl⟩|⟨b,off,cap,hv,h1,h2,h3,hc⟩
 ·cases e;obtain rfl:m=0:=by omega
  exact .inl ⟨a,c,h',rfl,by simp⟩
 ·cases hv;have hl:(xs.take m).length=m:=by rw[List.length_take];omega
  refine .inr ⟨b,off,c,by rw[hl],h1,by rw[hl];omega,h3,fun i hi=>?_⟩;rw[List.getElem_take];exact hc i (by rw[hl] at hi;omega)
theorem qsu (a:Option Addr) (n c k:Nat) (h:k≤c) (w:World):(Instr.sliceAt 42 (.slice a n c) none (some (.int .i64 k)) none).run Tryz.prog w= .ok (.slice a k c) w:=by
 go_simp
theorem qr0 (a:Option Addr) (n c k:Nat) (h:k≤n) (_hc:n≤c) (w:World):(Instr.sliceAt 42 (.slice a n c) (some (.int .i64 k)) none none).run Tryz.prog w= .ok (.slice (if c=k then a else a.map (·.add k)) (n - k) (c - k)) w:=by
 go_simp
theorem ql4 {W:World} {a:Option Addr} {c:Nat} {xs:List Value} (k:Nat) (h:Row W (.slice a xs.length c) xs) (hk:k≤xs.length):Row W (.slice (if c=k then a else a.map (·.add k)) (xs.length - k) (c - k)) (xs.drop k):=by
 rcases h with ⟨a',c',hac,e,rfl⟩|⟨b,off,cap,hv,h1,h2,h3,hc⟩
 ·cases e;have hk0:k=0:=by simpa using hk
  subst hk0;refine .inl ⟨_,_,fun h=>?_,rfl,by simp⟩
  split at h
  ·rename_i e;rw[e]
  ·cases a with
   |none=>rw[hac rfl]
   |some x=>cases h
 ·cases hv
  by_cases hlt:k=xs.length
  ·subst hlt;rw[List.drop_length,Nat.sub_self];refine .inl ⟨_,_,fun h=>?_,rfl,rfl⟩
   split at h
   ·cases h
   ·cases h
  ·refine .inr ⟨b,off+k,c - k,?_,h1,by rw[List.length_drop];omega,by unfold maxLen at*;omega,fun i hi=>?_⟩
   ·rw[if_neg (by omega),List.length_drop];simp[Addr.add]
   ·rw[List.length_drop] at hi;rw[List.getElem_drop,show off+k+i=off+(k+i) by omega];exact hc (k+i) (by omega)
theorem qiH {P:Program} {o:Oper} {a:Act} {Q:Exit→Act→World→Prop} {K:Act→World→Prop} {w:World} (s x:Operand) (t:TypeId)
 (ho:o.op= .call {callee:= .builtin .append,args:=#[s,x],argTypes:=#[t,t]})
 (base:Nat) (e:TypeId) (z:Value) (bytes:Nat) (ht:P.underlying t=some (.slice e)) (hinfo:(P.info? e).map (fun i=>(i.zero,i.size,i.bytes))=some (some z,1,bytes)) (hzs:z.cells.size=1)
 (v:Value) (n:Nat) (xs:List Value) (hs:a.eval s=v) (u:Value) (news:List Value) (hx:a.eval x=u) (hown:w.ownsRow base e 1 v n xs) (hrow:Row w u news) (hone: ∀c∈news,c.oneCell'=true)
 (hb1:1≤bytes) (hbytes:(n+news.length)*bytes≤140737488355328) (hbase:base≤w.heap.size)
 (h: ∀v' w',w'.ownsRow base e 1 v' (n+news.length) (xs++news)→Below base w w'→w.heap.size≤w'.heap.size→K (a.put o.dst v') w'):
 o.wp P a w K Q:=by
 obtain⟨i,hi,hz0,hz1,hz2⟩:=info_parts hinfo;have hn:n+news.length≤(n+news.length)*bytes:=Nat.le_mul_of_pos_right _ hb1
 have go: ∀(ad:Addr) (m c:Nat),u= .slice (some ad) m c→news.length=m→(∀j y,news[j]?=some y→w.cell? (ad.add j)=some y)→o.wp P a w K Q:=by
  intro ad m c hu hm hc;subst hu;subst hm;obtain⟨v',w',hrun,r1,r2,_⟩:=run_append_own (P:=P) w base t o.type e i z 1 bytes ht hi hz0 hz1 hz2 hzs (by decide) v n xs hown ad news.length c news (by omega) hc hone (by unfold maxLen;omega) hbytes hbase;unfold Oper.wp;simp[execOp,ho,resolve,invoke,builtin,hs,hx,hrun,Result.andThen];exact h v' w' r1 ((Below.refl base w).grown r2 hbase (fun k e'=>(hown.lt k e').1)) r2.size
 rcases hrow with ⟨a',c',hac,rfl,rfl⟩|⟨b,off,cap,rfl,hlt,h1,h2,hc⟩
 ·cases a' with
  |none=>
   rw[hac rfl] at hx;have hrun:=run_append_owned_none (P:=P) (w:=w) base t o.type e i 1 ht hi v n xs hown;unfold Oper.wp;simp[execOp,ho,resolve,invoke,builtin,hs,hx,hrun,Result.andThen];exact h v w (by simpa using hown) (Below.refl _ _) (Nat.le_refl _)
  |some ad=>exact go ad 0 c' rfl rfl (by intro j y hj;simp at hj)
 ·refine go ⟨b,off,none⟩ news.length cap rfl rfl (fun j y hj=>?_);obtain⟨hj',rfl⟩:=List.getElem?_eq_some_iff.1 hj;rw[show(⟨b,off,none⟩:Addr).add j=⟨b,off+j,none⟩ by simp[Addr.add]];exact hc j hj'
theorem qdy {P:Program} {ops:Array Oper} {Q:Exit→Act→World→Prop} {a:Act} {w:World} {K:Act→World→Prop} {i:Nat} {o:Oper} {x y:Operand} {t e:TypeId} {z:Value} {bytes base n:Nat} (ho:ops[i]?=some o) (hg:o.guard=none) (hop:o.op= .call {callee:= .builtin .append,args:=#[x,y],argTypes:=#[t,t]})
 (ht:P.underlying t=some (.slice e)) (hinfo:(P.info? e).map (fun i=>(i.zero,i.size,i.bytes))=some (some z,1,bytes)) (hzs:z.cells.size=1)
 (v u:Value) (xs news:List Value) (hx:a.eval x=v) (hown:w.ownsRow base e 1 v n xs) (hy:a.eval y=u) (hrow:Row w u news) (hone: ∀c∈news,c.oneCell'=true)
 (hb1:1≤bytes) (hbytes:(n+news.length)*bytes≤140737488355328) (hbase:base≤w.heap.size)
 (hk: ∀v' w',w'.ownsRow base e 1 v' (n+news.length) (xs++news)→Below base w w'→K (a.put o.dst v') w'):wpOp P ops Q i K a w:=
 qdg ho (qae hg) (qiH x y t hop base e z bytes ht hinfo hzs v n xs hx u news hy hown hrow hone hb1 hbytes hbase (fun v' w' h1 h2 _=>hk v' w' h1 h2))
end
end Go.Proofs.YtdeimnnpcfncpaaGreatDoor
end
section
namespace Go.Proofs.YtdeimnnpcfncpaaGreatDoor
open Go Go.RowKit
theorem bs_self (a:ByteArray):BS a.data.toList=a:=by
 simp[BS]
end Go.Proofs.YtdeimnnpcfncpaaGreatDoor
end
