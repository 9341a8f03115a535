/- Parts of the proof: RI RS. -/
import Derived.WalkKit
import Derived.Below
import Derived.Test.YtdeimnnpcfncpaaGreatDoorCX00
set_option linter.unusedVariables false
set_option linter.unusedSimpArgs false
set_option maxRecDepth 100000
set_option maxHeartbeats 64000000
namespace Go.Proofs.YtdeimnnpcfncpaaGreatDoor
open Go Go.RowKit
section
variable {P:Program} {ops:Array Oper} {md:Region.Mode} {Q:Exit→Act→World→Prop}
def qaZ (l:List Bool):Nat:=(l.filter (!·)).length
theorem qdz: ∀(l:List Bool) (i:Nat),l[i]?=some false→qaZ (l.set i true)+1=qaZ l
 | [],i,h=>by simp at h
 |b::l,0,h=>by simp at h;subst h;simp[qaZ]
 |b::l,i+1,h=>by
  have:=qdz l i (by simpa using h);cases b<;>simp[qaZ] at this⊢ <;>omega
theorem qcR: ∀(l:List Bool) (i:Nat),qaZ l=0→l[i]?≠some false
 | [],i,_=>by simp
 |b::l,0,h=>by cases b<;>simp[qaZ] at h⊢
 |b::l,i+1,h=>by
  have:=qcR l i (by cases b<;>simp[qaZ] at h⊢;simpa using h);simpa using this
theorem qd2 (I:Array Bool→Act→World→Prop)
 (hstep: ∀listed a w i,I listed a w→i∈Region.ready md ops listed→wpOp P ops Q i (I (listed.setIfInBounds i true)) a w)
 (hend: ∀listed a w,I listed a w→Region.ready md ops listed=[]→Q .normal a w):
 ∀(fuel:Nat) (listed:Array Bool) (a:Act) (w:World),qaZ listed.toList≤fuel→I listed a w→wpAny P md ops Q fuel listed a w:=by
 have hlist: ∀(listed:Array Bool) i,i∈Region.ready md ops listed→listed.toList[i]?=some false:=by
  intro listed i hi;have h0:=(mem_ready.1 hi).1;rcases Nat.lt_or_ge i listed.size with h'|h'
  ·simp[h'] at h0;simp[h',h0]
  ·simp[Array.getElem?_eq_none h'] at h0
 intro fuel
 induction fuel with
 |zero=>
  intro listed a w hf hI
  have hr:Region.ready md ops listed=[]:=by
   apply List.eq_nil_iff_forall_not_mem.2;intro i hi;exact qcR _ i (by omega) (hlist _ i hi)
  exact⟨hr,hend _ _ _ hI hr⟩
 |succ fuel ih=>
  intro listed a w hf hI;refine⟨fun h=>hend _ _ _ hI h,fun i hi=>wpOp_mono (fun a' w' h'=>ih _ a' w' ?_ h') (hstep _ _ _ _ hI hi)⟩;have:=qdz _ _ (hlist _ i hi);rw[Array.toList_setIfInBounds];omega
theorem qjF (hlow: ∀(i:Nat) (o:Oper),ops[i]?=some o→ ∀e∈o.after,e.on<i) (listed:Array Bool) (hsz:listed.size=ops.size) (hr:Region.ready md ops listed=[]):
 ∀i,i<ops.size→listed.getD i false=true:=by
 intro i
 induction i using Nat.strongRecOn with
 |_ i ih=>
  intro hi
  by_cases hl:listed.getD i false=true
  ·exact hl
  ·exfalso
   have hm:i∈Region.ready md ops listed:=by
    rw[mem_ready];have hi':i<listed.size:=by omega
    refine⟨by simpa [hi'] using hl,ops[i],by simp[hi],fun e he _=>ih _ (hlow i ops[i] (by simp[hi]) e he) ?_⟩;have:=hlow i ops[i] (by simp[hi]) e he;omega
   rw[hr] at hm;cases hm
def qaB (a:Act) (o:Oper):Value:=match o.dst with|some t=>a.tmps.getD t undef|none=>undef
def qaq (a:Act) (b:Act) (o:Oper):Act:=match o.dst with|some t=>b.put (some t) (a.tmps.getD t undef)|none=>b
theorem qg1 (a:Act) (t:Nat): ∀(l:List Oper) (b:Act),b.tmps.size=a.tmps.size→
 (l.foldl (qaq a) b).defers=b.defers∧(l.foldl (qaq a) b).tmps.size=a.tmps.size∧
 ((∀o∈l,o.dst≠some t)→(l.foldl (qaq a) b).tmps[t]?=b.tmps[t]?)∧((∃o∈l,o.dst=some t)∨b.tmps[t]?=a.tmps[t]?→(l.foldl (qaq a) b).tmps[t]?=a.tmps[t]?)
 | [],b,hs=>⟨rfl,hs,fun _=>rfl,fun h=>by rcases h with ⟨o,ho,_⟩|h;·cases ho
                                         ·exact h⟩
 |o::l,b,hs=>by
  have hs':(qaq a b o).tmps.size=a.tmps.size:=by unfold qaq;cases o.dst<;>simp[Act.put,hs]
  obtain⟨h1,h2,h3,h4⟩:=qg1 a t l (qaq a b o) hs';have hd:(qaq a b o).defers=b.defers:=by unfold qaq;cases o.dst<;>simp[Act.put]
  have hne:o.dst≠some t→(qaq a b o).tmps[t]?=b.tmps[t]?:=by
   unfold qaq
   cases hdst:o.dst with
   |none=>simp
   |some d=>intro hn;simp at hn;simp[Act.put,Array.getElem?_setIfInBounds_ne hn]
  have heq:o.dst=some t→(qaq a b o).tmps[t]?=a.tmps[t]?:=by
   intro hdst;unfold qaq;rw[hdst];rcases Nat.lt_or_ge t a.tmps.size with h'|h'
   ·simp[Act.put,h',hs]
   ·simp[Act.put,Array.getElem?_eq_none h'];omega
  refine⟨h1.trans hd,h2,fun hn=>?_,fun h=>?_⟩
  ·rw[List.foldl_cons,h3 (fun o' ho'=>hn o' (List.mem_cons_of_mem _ ho'))];exact hne (hn o (List.mem_cons_self ..))
  ·rw[List.foldl_cons];apply h4;rcases h with ⟨o',ho',hd'⟩|h
   ·rcases List.mem_cons.1 ho' with rfl|ho'
    ·exact .inr (heq hd')
    ·exact .inl ⟨o',ho',hd'⟩
   ·by_cases hdst:o.dst=some t
    ·exact .inr (heq hdst)
    ·exact .inr ((hne hdst).trans h)
theorem qhB (a b:Act) (l:List Oper) (hs:a.tmps.size=b.tmps.size) (hd:a.defers=b.defers) (hout: ∀t,(∀o∈l,o.dst≠some t)→a.tmps[t]?=b.tmps[t]?):a=l.foldl (qaq a) b:=by
 have h:=fun t=>qg1 a t l b hs.symm
 obtain⟨tm,df⟩:=a;have e1:=(h 0).1;generalize hx:l.foldl (qaq ⟨tm,df⟩) b=x at h e1⊢;obtain⟨tx,dx⟩:=x;simp only at e1 hd;rw[e1,hd]
 congr 1
 refine Array.ext_getElem? fun t=>?_
 refine((h t).2.2.2 ?_).symm
 by_cases hx: ∃o∈l,o.dst=some t
 ·exact .inl hx
 ·exact .inr (hout t (fun o ho e=>hx ⟨o,ho,e⟩)).symm
theorem qca {id:Nat} {l:List Oper} {a0:Act} {w0:World} (F:Nat→Value→World→Prop)
 (hm:P.follows .mixedOrders=true)
 (hlow:(List.range l.length).all (fun i=>((l[i]?).map fun o=>o.after.all fun e=>decide (e.on<i)).getD true)=true)
 (hdist:(l.map (·.dst)).Pairwise (· ≠ ·))
 (hdst:l.all (fun o=>(o.dst.map fun d=>decide (d<a0.tmps.size)).getD false)=true)
 (hkeep: ∀i v w w',F i v w→Below w.heap.size w w'→F i v w')
 (hstep: ∀i o,l[i]?=some o→ ∀a w,Below w0.heap.size w0 w→(∀t,(∀o∈l,o.dst≠some t)→a.tmps.getD t undef=a0.tmps.getD t undef)→a.tmps.size=a0.tmps.size→
   (∀e∈o.after,Region.binds .any e=true→ ∀o',l[e.on]?=some o'→F e.on (qaB a o') w)→
   wpOp P l.toArray Q i (fun a' w'=> ∃v,a'=a.put o.dst v∧Below w.heap.size w w'∧F i v w') a w)
 (hend: ∀a w,Below w0.heap.size w0 w→(∀i o,l[i]?=some o→F i (qaB a o) w)→a=l.foldl (qaq a) a0→Q .normal a w):
 (Code.region id l.toArray true).wp P Q a0 w0:=by
 refine wp_region_any hm ?_
 have hlow': ∀(i:Nat) (o:Oper),l.toArray[i]?=some o→ ∀e∈o.after,e.on<i:=by
  intro i o ho e he
  have hi:i<l.length:=by
   rcases Nat.lt_or_ge i l.length with h|h
   ·exact h
   ·simp[List.getElem?_eq_none h] at ho
  have:=List.all_eq_true.1 hlow i (List.mem_range.2 hi);simp at ho;rw[ho] at this;simp at this;obtain⟨k,hk,rfl⟩:=Array.mem_iff_getElem.1 he;exact this k hk
 have hdd: ∀(i j:Nat) oi oj t,l[i]?=some oi→l[j]?=some oj→oi.dst=some t→oj.dst=some t→i=j:=by
  intro i j oi oj t hi hj e1 e2;obtain⟨hi1,hi2⟩:=List.getElem?_eq_some_iff.1 hi;obtain⟨hj1,hj2⟩:=List.getElem?_eq_some_iff.1 hj;rw[List.pairwise_iff_getElem] at hdist;rcases Nat.lt_trichotomy i j with h|h|h
  ·exact absurd (by rw[List.getElem_map,List.getElem_map,hi2,hj2,e1,e2]) (hdist i j (by simpa) (by simpa) h)
  ·exact h
  ·exact absurd (by rw[List.getElem_map,List.getElem_map,hi2,hj2,e1,e2]) (hdist j i (by simpa) (by simpa) h)
 refine qd2 (I:=fun listed a w=>listed.size=l.length∧a.tmps.size=a0.tmps.size∧a.defers=a0.defers∧Below w0.heap.size w0 w∧(∀t,(∀o∈l,o.dst≠some t)→a.tmps[t]?=a0.tmps[t]?)∧(∀i o,l[i]?=some o→listed.getD i false=true→F i (qaB a o) w)) ?_ ?_ _ _ _ _ ?_ ?_
 ·rintro listed a w i ⟨h1,h2,h3,h4,h5,h6⟩ hi;obtain⟨hu,o,ho,haft⟩:=mem_ready.1 hi;have ho':l[i]?=some o:=by simpa using ho
  refine wpOp_mono ?_ (hstep i o ho' a w h4 (fun t ht=>by simp[h5 t ht]) h2 (fun e he hb o' hoe=>h6 _ _ hoe (haft e he hb)));rintro a' w' ⟨v,rfl,hb,hF⟩;have hom:o∈l:=List.mem_of_getElem? ho';have hd:=List.all_eq_true.1 hdst o hom
  obtain⟨d,hod,hdlt⟩: ∃d,o.dst=some d∧d<a0.tmps.size:=by
   cases hx:o.dst with
   |none=>simp[hx] at hd
   |some d=>simp[hx] at hd;exact⟨d,rfl,hd⟩
  refine⟨by simp[h1],by rw[hod];simp[Act.put,h2],by rw[hod];simp[Act.put,h3],h4.trans (hb.mono h4.size),fun t ht=>?_,fun j oj hj hl=>?_⟩
  ·have hne:d≠t:=fun e=>ht o hom (by rw[hod,e])
   rw[hod];simp only[Act.put];rw[Array.getElem?_setIfInBounds_ne hne];exact h5 t ht
  ·by_cases hij:i=j
   ·subst hij;obtain rfl:o=oj:=by rw[ho'] at hj;exact Option.some.inj hj
    have:qaB (a.put o.dst v) o=v:=by simp[qaB,hod,Act.put,h2,hdlt]
    rw[this];exact hF
   ·rw[getD_set_ne false hij] at hl;have hF':=hkeep _ _ _ _ (h6 j oj hj hl) hb
    have:qaB (a.put o.dst v) oj=qaB a oj:=by
     unfold qaB
     cases hoj:oj.dst with
     |none=>rfl
     |some t=>
      have hne:d≠t:=fun e=>hij (hdd i j o oj d ho' hj hod (by rw[hoj,e]))
      rw[hod];simp[Act.put,Array.getElem?_setIfInBounds_ne hne]
    rw[this];exact hF'
 ·rintro listed a w ⟨h1,h2,h3,h4,h5,h6⟩ hr;have hal:=qjF hlow' listed (by simpa using h1) hr;refine hend a w h4 (fun i o ho=>h6 i o ho (hal i ?_)) (qhB a a0 l h2 h3 h5);have:=(List.getElem?_eq_some_iff.1 ho).1;simpa using this
 ·rw[show l.toArray.size=l.length by simp,Array.toList_replicate,qaZ];exact Nat.le_trans (List.length_filter_le _ _) (by simp)
 ·refine⟨by simp,rfl,rfl,(Below.refl _ _).trans ⟨rfl,rfl,rfl,Nat.le_refl _,fun _ _=>rfl⟩,fun _ _=>rfl,fun i o ho hl=>?_⟩;have:=(List.getElem?_eq_some_iff.1 ho).1;simp[this] at hl
end
section
variable {P:Program} {ops:Array Oper} {Q:Exit→Act→World→Prop} {a:Act} {w:World} {K:Act→World→Prop} {i:Nat} {o:Oper}
def Met (ops:Array Oper) (a:Act) (o:Oper):Prop:=Region.wanted o (yielded ops a.tmps)=true
theorem qae (h:o.guard=none):Met ops a o:=by unfold Met Region.wanted;rw[h]
theorem qat {j:Nat} {b:Bool} {o':Oper} {t:Nat} (h:o.guard=some (j,b)) (hj:ops[j]?=some o') (ht:o'.dst=some t) (hv:a.tmps.getD t undef= .bool b):Met ops a o:=by
 have:a.tmps[t]?=some (.bool b):=by
  rcases Nat.lt_or_ge t a.tmps.size with h'|h'
  ·simp[h'] at hv;simp[h',hv]
  ·simp[Array.getElem?_eq_none h',undef] at hv
 unfold Met Region.wanted;rw[h];simp[yielded,hj,ht,this]
theorem qaC {v:Value} {w':World} (ho:ops[i]?=some o) (hm:Met ops a o) (hr:(execOp a.eval o).run P w= .ok (.value v) w') (hk:K (a.put o.dst v) w'):wpOp P ops Q i K a w:=by
 unfold Met at hm;unfold wpOp;simp only[ho,hm,if_true];left;unfold Oper.wp;rw[hr];exact hk
theorem qap {x:Operand} (ho:ops[i]?=some o) (hm:Met ops a o) (hop:o.op= .move x∨o.op= .assign x) (hk:K (a.put o.dst (a.eval x)) w):wpOp P ops Q i K a w:=by
 refine qaC ho hm (v:=a.eval x) (w':=w) ?_ hk;rcases hop with h|h<;>simp[execOp,h]
theorem qa3 {f:FuncId} {dst:Option Tmp} {xs:Array Operand} {ats:Array TypeId} {ty:TypeId} {pos:String} {after:Array Edge} {guard:Option (Nat×Bool)}
 (ho:ops[i]?=some {dst,op:= .call {callee:= .value (.func f),args:=xs,argTypes:=ats},type:=ty,pos,after,guard}) (hm:Met ops a {dst,op:= .call {callee:= .value (.func f),args:=xs,argTypes:=ats},type:=ty,pos,after,guard})
 (args:Array Value) (hargs:#[]++xs.map a.eval++#[]=args) (hf:(callFunc f args).run P w= .ok (.enter f args) w)
 (hc:Calls P f args w fun e w'=> ∃v,e= .returned v∧K (a.put dst v) w'):wpOp P ops Q i K a w:=by
 unfold Met at hm;unfold wpOp;simp only[ho,hm,if_true];left;unfold Oper.wp
 have:(execOp a.eval {dst,op:= .call {callee:= .value (.func f),args:=xs,argTypes:=ats},type:=ty,pos,after,guard}).run P w= .ok (.enter f args) w:=by
  show(callFunc f (#[]++xs.map a.eval++#[])).run P w=_;rw[hargs,hf]
 rw[this];exact hc.mono fun e w' ⟨v,he,hk⟩=>by subst he;exact hk
theorem qhJ {x:Operand} {v:Value} (h:a.eval x=v):#[]++#[x].map a.eval++#[]=#[v]:=by simp[h]
theorem qt4 {x y:Operand} {v u:Value} (h:a.eval x=v) (g:a.eval y=u):#[]++#[x,y].map a.eval++#[]=#[v,u]:=by simp[h,g]
theorem qcN {c x y:Operand} {b:Bool} (ho:ops[i]?=some o) (hm:Met ops a o) (hop:o.op= .pick c x y) (hc:a.eval c= .bool b) (hk:K (a.put o.dst (if b then a.eval x else a.eval y)) w):wpOp P ops Q i K a w:=by
 refine qaC ho hm (v:=if b then a.eval x else a.eval y) (w':=w) ?_ hk;simp[execOp,hop,hc,asBool,Result.andThen]
theorem qej {t:TypeId} {x:Operand} {v:Value} {w':World} {r:Value} (ho:ops[i]?=some o) (hm:Met ops a o) (hop:o.op= .buildSlice t 1 #[(0,x)]) (hx:a.eval x=v)
 (hr:(Instr.buildSlice t 1 #[(0,v)]).run P w= .ok r w') (hk:K (a.put o.dst r) w'):wpOp P ops Q i K a w:=by
 refine qaC ho hm (v:=r) (w':=w') ?_ hk;simp[execOp,hop,hx,hr,Result.andThen]
theorem qbu {x:Operand} {t:TypeId} {v:Value} {p:Value} (ho:ops[i]?=some o) (hm:Met ops a o) (hop:o.op= .load t x) (hx:a.eval x=p) (hr:(execOp (fun _=>p) {o with op:= .load t x}).run P w= .ok (.value v) w) (hk:K (a.put o.dst v) w):wpOp P ops Q i K a w:=by
 refine qaC ho hm (v:=v) (w':=w) ?_ hk;obtain⟨dst,op,ty,pos,after,guard⟩:=o;simp only at hop;subst hop;simpa [execOp,hx] using hr
theorem qa2 {x y:Operand} {op:BinOp} {t t2:TypeId} {u v r:Value} {w':World} (ho:ops[i]?=some o) (hm:Met ops a o) (hop:o.op= .binOp op t x y t2) (hx:a.eval x=u) (hy:a.eval y=v)
 (hr:(do eqGuard op t x y u v;binOp op t u v:Sem Value).run P w= .ok r w') (hk:K (a.put o.dst r) w'):wpOp P ops Q i K a w:=by
 refine qaC ho hm (v:=r) (w':=w') ?_ hk;simp only[execOp,hop,hx,hy];rw[Sem.run_bind,hr];rfl
theorem qeR {x:Operand} {t:TypeId} {n:Nat} {v r:Value} (ho:ops[i]?=some o) (hm:Met ops a o) (hop:o.op= .fieldAddr t x n) (hx:a.eval x=v) (hr:(Instr.fieldAt t v n).run P w= .ok r w)
 (hk:K (a.put o.dst r) w):wpOp P ops Q i K a w:=by
 refine qaC ho hm (v:=r) (w':=w) ?_ hk;simp[execOp,hop,hx,hr,Result.andThen]
end
end Go.Proofs.YtdeimnnpcfncpaaGreatDoor
