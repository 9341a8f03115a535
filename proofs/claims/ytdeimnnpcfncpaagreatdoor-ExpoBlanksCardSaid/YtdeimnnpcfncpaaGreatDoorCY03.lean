/- Parts of the proof: J1 J2 J3 RI RS RL RL2. -/
import Derived.WalkKit
import Derived.WalkSpells
import Derived.Laws.AppendOwnNone
import Derived.Below
import Derived.Test.YtdeimnnpcfncpaaGreatDoorCY00
set_option linter.unusedVariables false
set_option linter.unusedSimpArgs false
set_option maxRecDepth 100000
set_option maxHeartbeats 64000000
section
namespace Go.Proofs.YtdeimnnpcfncpaaGreatDoor
open Go.RowKit
def qdi (c:UInt8):Value:= .int .u8 (c.toNat:Int)
theorem qns (c:UInt8):(qdi c).oneCell'=true:=rfl
def Row (W:World) (v:Value) (xs:List Value):Prop:=
 (∃a c,(a=none→c=0)∧v= .slice a 0 c∧xs=[])∨ ∃b off cap,v= .slice (some ⟨b,off,none⟩) xs.length cap∧b<W.heap.size∧xs.length≤cap∧cap≤maxLen∧ ∀i (hi:i<xs.length),W.cell? ⟨b,off+i,none⟩=some xs[i]
theorem qoE {P:Program} {ops:Array Oper} {rest:List Oper} {o:Oper} {a:Act} {Q:Exit→Act→World→Prop} {w:World} (hgd:o.guard=none) (s x:Operand) (t:TypeId)
 (ho:o.op= .call {callee:= .builtin .append,args:=#[s,x],argTypes:=#[t,t]})
 (base:Nat) (e:TypeId) (z:Value) (bytes:Nat) (ht:P.underlying t=some (.slice e)) (hinfo:(P.info? e).map (fun i=>(i.zero,i.size,i.bytes))=some (some z,1,bytes)) (hzs:z.cells.size=1)
 (v:Value) (n:Nat) (xs:List Value) (hs:a.eval s=v) (u:Value) (news:List Value) (hx:a.eval x=u) (hown:w.ownsRow base e 1 v n xs) (hrow:Row w u news) (hone: ∀c∈news,c.oneCell'=true)
 (hb1:1≤bytes) (hbytes:(n+news.length)*bytes≤140737488355328) (hbase:base≤w.heap.size)
 (h: ∀v' w',w'.ownsRow base e 1 v' (n+news.length) (xs++news)→Below base w w'→(∀row,v.ownBlock≠some row→row<w.heap.size→w'.heap[row]?=w.heap[row]?)→(v'= .slice none 0 0↔v= .slice none 0 0∧news=[])→wpList P ops Q rest (a.put o.dst v') w'):
 wpList P ops Q (o::rest) a w:=by
 obtain⟨i,hi,hz0,hz1,hz2⟩:=info_parts hinfo;have hn:n+news.length≤(n+news.length)*bytes:=Nat.le_mul_of_pos_right _ hb1;rcases hrow with ⟨a',c',hac,rfl,rfl⟩|⟨b,off,cap,rfl,hlt,h1,h2,hc⟩
 ·cases a' with
  |none=>
   rw[hac rfl] at hx;refine wpList_append_own_none hgd s x t ho base e i 1 ht hi v n xs hs hown hx (h v w ?_ (Below.refl _ _) (fun _ _ _=>rfl) ?_)
   ·simpa using hown
   ·simp
  |some ad=>
   refine wpList_append_own _ hgd s x t ho base e i z 1 bytes ht hi hz0 hz1 hz2 hzs (by decide) v n xs hs hown ad 0 c' [] hx (by simp) (by intro j c hj;simp at hj) hone (by unfold maxLen;simp at hn hbytes;omega) hbytes hbase ?_;intro v' w' hown' hg hnil;refine h v' w' hown' ((Below.refl base w).grown hg hbase (fun k e'=>(hown.lt k e').1)) (fun row hrow hlt=>hg.block row hlt (fun e'=>hrow e'.symm)) ?_;rw[hnil];simp
 ·refine wpList_append_own _ hgd s x t ho base e i z 1 bytes ht hi hz0 hz1 hz2 hzs (by decide) v n xs hs hown ⟨b,off,none⟩ news.length cap news hx (by omega) ?_ hone (by unfold maxLen;omega) hbytes hbase ?_
  ·intro j c hj;obtain⟨hj',rfl⟩:=List.getElem?_eq_some_iff.1 hj;rw[show(⟨b,off,none⟩:Addr).add j=⟨b,off+j,none⟩ by simp[Addr.add]];exact hc j hj'
  ·intro v' w' hown' hg hnil;refine h v' w' hown' ((Below.refl base w).grown hg hbase (fun k e'=>(hown.lt k e').1)) (fun row hrow hlt=>hg.block row hlt (fun e'=>hrow e'.symm)) ?_;rw[hnil];simp[List.length_eq_zero_iff]
end Go.Proofs.YtdeimnnpcfncpaaGreatDoor
end
section
namespace Go.Proofs.YtdeimnnpcfncpaaGreatDoor
open Go Go.RowKit
structure qbU (w:World) (B e g n cap:Nat) (xs:List Value):Prop where
 len:xs.length=n
 low:B≤g
 cap1:n≤cap
 cap2:cap≤maxLen
 obj: ∃cur fz,w.heap[g]?=some (.cells cur e fz)∧(fz=(0,0)∨cap≤fz.1)∧cur.size=cap∧cur.toList.take n=xs
theorem qbU.of_own {w:World} {B e g n cap:Nat} {xs:List Value} (h:w.ownsRow B e 1 (.slice (some ⟨g,0,none⟩) n cap) n xs):qbU w B e g n cap xs:=by
 rcases h.2 with ⟨h0,_⟩|⟨g',cap',cur,hv,hb,hg,h1,h2,h3,h4⟩
 ·cases h0
 ·cases hv;exact⟨by have:=h.1;omega,hb,h1,h2,cur,(0,0),hg,.inl rfl,by omega,by rw[Nat.mul_one] at h4;exact h4⟩
theorem qbU.cell {w:World} {B e g n cap:Nat} {xs:List Value} (h:qbU w B e g n cap xs) (i:Nat) (hi:i<n):w.cell? ⟨g,i,none⟩=xs[i]?:=by
 obtain⟨cur,fz,h1,h2,h3,h4⟩:=h.obj;unfold World.cell?;simp only[h1];rw[←h4,List.getElem?_take,if_pos hi];simp
theorem qbU.frozen {w:World} {B e g n cap:Nat} {xs:List Value} (h:qbU w B e g n cap xs) (i:Nat) (hi:i<cap):w.frozen? ⟨g,i,none⟩=false:=by
 obtain⟨cur,fz,h1,h2,h3,h4⟩:=h.obj;unfold World.frozen?;simp only[h1];rcases h2 with rfl|h2
 ·simp
 ·obtain⟨lo,hi'⟩:=fz;have h2':cap≤lo:=h2;simp;intro h;omega
theorem qbU.store {w:World} {B e g n cap:Nat} {xs:List Value} (h:qbU w B e g n cap xs) (i:Nat) (u:Value):qbU (w.setCell ⟨g,i,none⟩ u) B e g n cap (xs.set i u):=by
 obtain⟨cur,fz,h1,h2,h3,h4⟩:=h.obj;refine⟨by rw[List.length_set];exact h.len,h.low,h.cap1,h.cap2,cur.setIfInBounds i u,fz,?_,h2,by simp[h3],?_⟩
 ·simp[World.setCell,Array.getElem?_modify,h1]
 ·rw[Array.toList_setIfInBounds,List.take_set,h4]
theorem qbU.push {w:World} {B e g n cap:Nat} {xs:List Value} (h:qbU w B e g n cap xs) (hn:n<cap) (u:Value):qbU (w.setCell ⟨g,n,none⟩ u) B e g (n+1) cap (xs++[u]):=by
 obtain⟨cur,fz,h1,h2,h3,h4⟩:=h.obj;refine⟨by rw[List.length_append,h.len];rfl,h.low,hn,h.cap2,cur.setIfInBounds n u,fz,?_,h2,by simp[h3],?_⟩
 ·simp[World.setCell,Array.getElem?_modify,h1]
 ·have hl:n<cur.toList.length:=by simp;omega
  rw[Array.toList_setIfInBounds,List.take_set,List.take_add_one,h4,List.getElem?_eq_getElem hl];show(xs++[cur.toList[n]]).set n u=_;rw[List.set_append_right _ _ (by rw[h.len];exact Nat.le_refl _),h.len,Nat.sub_self];rfl
theorem qbU.oth {w w':World} {B e g n cap:Nat} {xs:List Value} (h:qbU w B e g n cap xs) (hg:w'.heap[g]?=w.heap[g]?):qbU w' B e g n cap xs:=by
 obtain⟨cur,fz,h1,h2⟩:=h.obj;exact⟨h.len,h.low,h.cap1,h.cap2,cur,fz,hg.trans h1,h2⟩
theorem qbU.lt {w:World} {B e g n cap:Nat} {xs:List Value} (h:qbU w B e g n cap xs):g<w.heap.size:=by
 obtain⟨cur,fz,h1,_⟩:=h.obj;exact(Array.getElem?_eq_some_iff.1 h1).1
theorem qbU.ne {w:World} {B e g n cap b:Nat} {xs:List Value} {v:Value} {t:TypeId} (h:qbU w B e g n cap xs) (hb:w.heap[b]?=some (.cells #[v] t (0,0))) (hne:e≠t):g≠b:=by
 obtain⟨cur,fz,h1,_⟩:=h.obj;intro e';rw[e',hb] at h1;simp only[Option.some.injEq,Obj.cells.injEq] at h1;exact hne h1.2.1.symm
section
variable {P:Program} (w:World)
theorem qeW (t ty e:TypeId) (i:TypeInfo) (ht:P.underlying t=some (.slice e)) (hi:P.info? e=some i) (hsize:i.size=1)
 (g n cap:Nat) (a:Addr) (c:Nat) (u:Value) (hu:w.cell? a=some u) (h1:u.oneCell'=true) (hc:(w.cell? ⟨g,n,none⟩).isSome=true) (hf:w.frozen? ⟨g,n,none⟩=false) (hroom:n<cap):
 (Builtin.append_ #[t,t] ty #[.slice (some ⟨g,0,none⟩) n cap,.slice (some a) 1 c]).run P w= .ok (.slice (some ⟨g,0,none⟩) (n+1) cap) (w.setCell ⟨g,n,none⟩ u):=by
 have hf1:=run_firstCells_some (P:=P) w i.size 1 a 1 c [u] (by rw[hsize];rfl) (fun j v hj=>by
  cases j with
  |zero=>simp at hj;subst hj;rw[show a.add 0=a by simp[Addr.add]];exact hu
  |succ j=>simp at hj)
 have hst:(storeCells ⟨g,n,none⟩ [u] 0).run P w= .ok () (w.setCell ⟨g,n,none⟩ u):=by
  obtain⟨x,hx⟩:=Option.isSome_iff_exists.1 hc
  have hs:(store ((⟨g,n,none⟩:Addr).add 0) u).run P w= .ok () (w.setCell ⟨g,n,none⟩ u):=by
   rw[show(⟨g,n,none⟩:Addr).add 0=⟨g,n,none⟩ by simp[Addr.add],run_store P w _ u _ h1,hx];simp[hf]
  simp only[storeCells,Sem.run_bind,hs,Result.andThen_ok];rfl
 have hr:n+1≤cap:=hroom;rw[hsize] at hf1;simp[Builtin.append_,run_underlying ht,sizeOf,typeInfo,hi,hsize,Builtin.lenOf,hr,hf1,Addr.add_lit,hst]
theorem qmR (base:Nat) (t ty e:TypeId) (i:TypeInfo) (z:Value) (ht:P.underlying t=some (.slice e)) (hi:P.info? e=some i) (hz:i.zero=some z) (hsize:i.size=1) (hby:i.bytes=1) (hzs:z.cells.size=1)
 (g n cap:Nat) (xs:List Value) (h:qbU w base e g n cap xs) (a:Addr) (c:Nat) (u:Value) (hu:w.cell? a=some u) (h1:u.oneCell'=true) (hbytes:n+1≤140737488355328) (hbase:base≤w.heap.size):
 ∃g' cap' w',(Builtin.append_ #[t,t] ty #[.slice (some ⟨g,0,none⟩) n cap,.slice (some a) 1 c]).run P w= .ok (.slice (some ⟨g',0,none⟩) (n+1) cap') w'∧qbU w' base e g' (n+1) cap' (xs++[u])∧Below base w w'∧ ∀row,row≠g→row<w.heap.size→w'.heap[row]?=w.heap[row]?:=by
 by_cases hroom:n<cap
 ·have hc:(w.cell? ⟨g,n,none⟩).isSome=true:=by
   obtain⟨cur,fz,h2,_,h3,_⟩:=h.obj;unfold World.cell?;simp only[h2];simp;omega
  exact⟨g,cap,_,qeW w t ty e i ht hi hsize g n cap a c u hu h1 hc (h.frozen n hroom) hroom,h.push hroom u,(Below.refl base w).setCell h.low u,fun row hr _=>Below.heap_setCell w ⟨g,n,none⟩ u row hr⟩
 ·have hcap:cap=n:=by have:=h.cap1;omega
  have holds: ∀j v,xs[j]?=some v→w.cell? ((⟨g,0,none⟩:Addr).add j)=some v:=by
   intro j v hj
   have hjl:j<n:=by
    rcases Nat.lt_or_ge j n with g'|g'
    ·exact g'
    ·rw[List.getElem?_eq_none (by rw[h.len];exact g')] at hj;cases hj
   rw[show(⟨g,0,none⟩:Addr).add j=⟨g,j,none⟩ by unfold Addr.add;split<;>simp_all,h.cell j hjl];exact hj
  have hnews: ∀j v,[u][j]?=some v→w.cell? (a.add j)=some v:=fun j v hj=>by
   cases j with
   |zero=>simp at hj;subst hj;rw[show a.add 0=a by simp[Addr.add]];exact hu
   |succ j=>simp at hj
  have h63:n+1≤maxLen:=by unfold maxLen;omega
  have hr:=run_append_grow (P:=P) w t ty e i z ht hi hz ⟨g,0,none⟩ n cap xs (by rw[h.len,hsize,Nat.mul_one]) holds a 1 c [u] (by rw[hsize];rfl) hnews (by omega) (by omega) (growslice_fits (by omega) (by rw[hby];omega));have hge:=grownCap_ge w (n+1) cap e;have hcm:grownCap w (n+1) cap e≤maxLen:=grownCap_le_maxLen w (n+1) cap e h63;refine⟨_,_,_,hr,⟨by rw[List.length_append,h.len];rfl,hbase,hge,hcm,_,(0,0),heap_alloc_new w.drew _,.inl rfl,?_,?_⟩,(Below.drew (Below.refl base w)).alloc hbase _,fun row _ hlt=>Below.heap_alloc w.drew _ row hlt⟩
  ·simp only[Array.size_append,List.size_toArray,size_zeroCells,hzs,h.len,List.length_singleton];omega
  ·simp only[Array.toList_append,List.append_assoc];rw[←List.append_assoc];have hl:(xs++[u]).length=n+1:=by rw[List.length_append,h.len];rfl
   conv=>lhs;rw[←hl]
   exact List.take_left
end
theorem qmO {P:Program} {ops:Array Oper} {rest:List Oper} {o:Oper} {a:Act} {Q:Exit→Act→World→Prop} {w:World} (hgd:o.guard=none) (s x:Operand) (t:TypeId)
 (ho:o.op= .call {callee:= .builtin .append,args:=#[s,x],argTypes:=#[t,t]})
 {e:TypeId} {u:Value} (base:Nat) (z:Value) (ht:P.underlying t=some (.slice e)) (hinfo:(P.info? e).map (fun i=>(i.zero,i.size,i.bytes))=some (some z,1,1)) (hzs:z.cells.size=1)
 (g n cap:Nat) (xs:List Value) (hs:a.eval s= .slice (some ⟨g,0,none⟩) n cap) (hx:a.eval x= .slice (some ⟨w.heap.size,0,none⟩) 1 1) (hown:qbU w base e g n cap xs) (hu:u.oneCell'=true)
 (hbytes:n+1≤140737488355328) (hbase:base≤w.heap.size)
 (h: ∀g' cap' w',qbU w' base e g' (n+1) cap' (xs++[u])→Below base w w'→(∀row,row≠g→row<w.heap.size→w'.heap[row]?=w.heap[row]?)→wpList P ops Q rest (a.put o.dst (.slice (some ⟨g',0,none⟩) (n+1) cap')) w'):
 wpList P ops Q (o::rest) a (w.alloc (.cells #[u] e)):=by
 obtain⟨i,hi,hz0,hz1,hz2⟩:=info_parts hinfo;have hgl:=hown.lt;obtain⟨g',cap',w',hr,h1,h2,h3⟩:=qmR (P:=P) (w.alloc (.cells #[u] e)) base t o.type e i z ht hi hz0 hz1 hz2 hzs g n cap xs (hown.oth (Below.heap_alloc w _ g hgl)) ⟨w.heap.size,0,none⟩ 1 u (cell_one_new _ _ _ 0 u rfl) hu hbytes (by simp;omega);refine wpList_plain hgd fun _ hK=>?_
 unfold Oper.wp execOp;simp only[ho,resolve,invoke,builtin,Sem.run_bind,Sem.run_pure,Result.andThen_ok,List.map_toArray,List.map_cons,List.map_nil,hs,hx,hr];exact hK _ _ (h g' cap' w' h1 (((Below.refl base w).alloc hbase _).trans h2) fun row hr' hlt=>(h3 row hr' (by simp;omega)).trans (Below.heap_alloc w _ row hlt))
section
variable {P:Program} {ops:Array Oper} {md:Region.Mode} {Q:Exit→Act→World→Prop}
def qa3 (l:List Bool):Nat:=(l.filter (!·)).length
theorem qdk: ∀(l:List Bool) (i:Nat),l[i]?=some false→qa3 (l.set i true)+1=qa3 l
 | [],i,h=>by simp at h
 |b::l,0,h=>by simp at h;subst h;simp[qa3]
 |b::l,i+1,h=>by
  have:=qdk l i (by simpa using h);cases b<;>simp[qa3] at this⊢ <;>omega
theorem qcI: ∀(l:List Bool) (i:Nat),qa3 l=0→l[i]?≠some false
 | [],i,_=>by simp
 |b::l,0,h=>by cases b<;>simp[qa3] at h⊢
 |b::l,i+1,h=>by
  have:=qcI l i (by cases b<;>simp[qa3] at h⊢;simpa using h);simpa using this
theorem qd9 (I:Array Bool→Act→World→Prop)
 (hstep: ∀listed a w i,I listed a w→i∈Region.ready md ops listed→wpOp P ops Q i (I (listed.setIfInBounds i true)) a w)
 (hend: ∀listed a w,I listed a w→Region.ready md ops listed=[]→Q .normal a w):
 ∀(fuel:Nat) (listed:Array Bool) (a:Act) (w:World),qa3 listed.toList≤fuel→I listed a w→wpAny P md ops Q fuel listed a w:=by
 have hlist: ∀(listed:Array Bool) i,i∈Region.ready md ops listed→listed.toList[i]?=some false:=by
  intro listed i hi;have h0:=(mem_ready.1 hi).1;rcases Nat.lt_or_ge i listed.size with h'|h'
  ·simp[h'] at h0;simp[h',h0]
  ·simp[Array.getElem?_eq_none h'] at h0
 intro fuel
 induction fuel with
 |zero=>
  intro listed a w hf hI
  have hr:Region.ready md ops listed=[]:=by
   apply List.eq_nil_iff_forall_not_mem.2;intro i hi;exact qcI _ i (by omega) (hlist _ i hi)
  exact⟨hr,hend _ _ _ hI hr⟩
 |succ fuel ih=>
  intro listed a w hf hI;refine⟨fun h=>hend _ _ _ hI h,fun i hi=>wpOp_mono (fun a' w' h'=>ih _ a' w' ?_ h') (hstep _ _ _ _ hI hi)⟩;have:=qdk _ _ (hlist _ i hi);rw[Array.toList_setIfInBounds];omega
theorem qeD (hlow: ∀(i:Nat) (o:Oper),ops[i]?=some o→ ∀e∈o.after,e.on<i) (listed:Array Bool) (hsz:listed.size=ops.size) (hr:Region.ready md ops listed=[]):
 ∀i,i<ops.size→listed.getD i false=true:=by
 intro i
 induction i using Nat.strongRecOn with
 |_ i ih=>
  intro hi
  by_cases hl:listed.getD i false=true
  ·exact hl
  ·exfalso
   have hm:i∈Region.ready md ops listed:=by
    rw[mem_ready];have hi':i<listed.size:=by omega
    refine⟨by simpa [hi'] using hl,ops[i],by simp[hi],fun e he _=>ih _ (hlow i ops[i] (by simp[hi]) e he) ?_⟩;have:=hlow i ops[i] (by simp[hi]) e he;omega
   rw[hr] at hm;cases hm
def qaD (a:Act) (o:Oper):Value:=match o.dst with|some t=>a.tmps.getD t undef|none=>undef
def qap (a:Act) (b:Act) (o:Oper):Act:=match o.dst with|some t=>b.put (some t) (a.tmps.getD t undef)|none=>b
theorem qfZ (a:Act) (t:Nat): ∀(l:List Oper) (b:Act),b.tmps.size=a.tmps.size→
 (l.foldl (qap a) b).defers=b.defers∧(l.foldl (qap a) b).tmps.size=a.tmps.size∧
 ((∀o∈l,o.dst≠some t)→(l.foldl (qap a) b).tmps[t]?=b.tmps[t]?)∧((∃o∈l,o.dst=some t)∨b.tmps[t]?=a.tmps[t]?→(l.foldl (qap a) b).tmps[t]?=a.tmps[t]?)
 | [],b,hs=>⟨rfl,hs,fun _=>rfl,fun h=>by rcases h with ⟨o,ho,_⟩|h;·cases ho
                                         ·exact h⟩
 |o::l,b,hs=>by
  have hs':(qap a b o).tmps.size=a.tmps.size:=by unfold qap;cases o.dst<;>simp[Act.put,hs]
  obtain⟨h1,h2,h3,h4⟩:=qfZ a t l (qap a b o) hs';have hd:(qap a b o).defers=b.defers:=by unfold qap;cases o.dst<;>simp[Act.put]
  have hne:o.dst≠some t→(qap a b o).tmps[t]?=b.tmps[t]?:=by
   unfold qap
   cases hdst:o.dst with
   |none=>simp
   |some d=>intro hn;simp at hn;simp[Act.put,Array.getElem?_setIfInBounds_ne hn]
  have heq:o.dst=some t→(qap a b o).tmps[t]?=a.tmps[t]?:=by
   intro hdst;unfold qap;rw[hdst];rcases Nat.lt_or_ge t a.tmps.size with h'|h'
   ·simp[Act.put,h',hs]
   ·simp[Act.put,Array.getElem?_eq_none h'];omega
  refine⟨h1.trans hd,h2,fun hn=>?_,fun h=>?_⟩
  ·rw[List.foldl_cons,h3 (fun o' ho'=>hn o' (List.mem_cons_of_mem _ ho'))];exact hne (hn o (List.mem_cons_self ..))
  ·rw[List.foldl_cons];apply h4;rcases h with ⟨o',ho',hd'⟩|h
   ·rcases List.mem_cons.1 ho' with rfl|ho'
    ·exact .inr (heq hd')
    ·exact .inl ⟨o',ho',hd'⟩
   ·by_cases hdst:o.dst=some t
    ·exact .inr (heq hdst)
    ·exact .inr ((hne hdst).trans h)
theorem qhc (a b:Act) (l:List Oper) (hs:a.tmps.size=b.tmps.size) (hd:a.defers=b.defers) (hout: ∀t,(∀o∈l,o.dst≠some t)→a.tmps[t]?=b.tmps[t]?):a=l.foldl (qap a) b:=by
 have h:=fun t=>qfZ a t l b hs.symm
 obtain⟨tm,df⟩:=a;have e1:=(h 0).1;generalize hx:l.foldl (qap ⟨tm,df⟩) b=x at h e1⊢;obtain⟨tx,dx⟩:=x;simp only at e1 hd;rw[e1,hd]
 congr 1
 refine Array.ext_getElem? fun t=>?_
 refine((h t).2.2.2 ?_).symm
 by_cases hx: ∃o∈l,o.dst=some t
 ·exact .inl hx
 ·exact .inr (hout t (fun o ho e=>hx ⟨o,ho,e⟩)).symm
theorem qd5 {id:Nat} {l:List Oper} {a0:Act} {w0:World} (F:Nat→Value→World→Prop)
 (hm:P.follows .mixedOrders=true)
 (hlow:(List.range l.length).all (fun i=>((l[i]?).map fun o=>o.after.all fun e=>decide (e.on<i)).getD true)=true)
 (hdist:(l.map (·.dst)).Pairwise (· ≠ ·))
 (hdst:l.all (fun o=>(o.dst.map fun d=>decide (d<a0.tmps.size)).getD false)=true)
 (hkeep: ∀i v w w',F i v w→Below w.heap.size w w'→F i v w')
 (hstep: ∀i o,l[i]?=some o→ ∀a w,Below w0.heap.size w0 w→(∀t,(∀o∈l,o.dst≠some t)→a.tmps.getD t undef=a0.tmps.getD t undef)→a.tmps.size=a0.tmps.size→
   (∀e∈o.after,Region.binds .any e=true→ ∀o',l[e.on]?=some o'→F e.on (qaD a o') w)→
   wpOp P l.toArray Q i (fun a' w'=> ∃v,a'=a.put o.dst v∧Below w.heap.size w w'∧F i v w') a w)
 (hend: ∀a w,Below w0.heap.size w0 w→(∀i o,l[i]?=some o→F i (qaD a o) w)→a=l.foldl (qap a) a0→Q .normal a w):
 (Code.region id l.toArray true).wp P Q a0 w0:=by
 refine wp_region_any hm ?_
 have hlow': ∀(i:Nat) (o:Oper),l.toArray[i]?=some o→ ∀e∈o.after,e.on<i:=by
  intro i o ho e he
  have hi:i<l.length:=by
   rcases Nat.lt_or_ge i l.length with h|h
   ·exact h
   ·simp[List.getElem?_eq_none h] at ho
  have:=List.all_eq_true.1 hlow i (List.mem_range.2 hi);simp at ho;rw[ho] at this;simp at this;obtain⟨k,hk,rfl⟩:=Array.mem_iff_getElem.1 he;exact this k hk
 have hdd: ∀(i j:Nat) oi oj t,l[i]?=some oi→l[j]?=some oj→oi.dst=some t→oj.dst=some t→i=j:=by
  intro i j oi oj t hi hj e1 e2;obtain⟨hi1,hi2⟩:=List.getElem?_eq_some_iff.1 hi;obtain⟨hj1,hj2⟩:=List.getElem?_eq_some_iff.1 hj;rw[List.pairwise_iff_getElem] at hdist;rcases Nat.lt_trichotomy i j with h|h|h
  ·exact absurd (by rw[List.getElem_map,List.getElem_map,hi2,hj2,e1,e2]) (hdist i j (by simpa) (by simpa) h)
  ·exact h
  ·exact absurd (by rw[List.getElem_map,List.getElem_map,hi2,hj2,e1,e2]) (hdist j i (by simpa) (by simpa) h)
 refine qd9 (I:=fun listed a w=>listed.size=l.length∧a.tmps.size=a0.tmps.size∧a.defers=a0.defers∧Below w0.heap.size w0 w∧(∀t,(∀o∈l,o.dst≠some t)→a.tmps[t]?=a0.tmps[t]?)∧(∀i o,l[i]?=some o→listed.getD i false=true→F i (qaD a o) w)) ?_ ?_ _ _ _ _ ?_ ?_
 ·rintro listed a w i ⟨h1,h2,h3,h4,h5,h6⟩ hi;obtain⟨hu,o,ho,haft⟩:=mem_ready.1 hi;have ho':l[i]?=some o:=by simpa using ho
  refine wpOp_mono ?_ (hstep i o ho' a w h4 (fun t ht=>by simp[h5 t ht]) h2 (fun e he hb o' hoe=>h6 _ _ hoe (haft e he hb)));rintro a' w' ⟨v,rfl,hb,hF⟩;have hom:o∈l:=List.mem_of_getElem? ho';have hd:=List.all_eq_true.1 hdst o hom
  obtain⟨d,hod,hdlt⟩: ∃d,o.dst=some d∧d<a0.tmps.size:=by
   cases hx:o.dst with
   |none=>simp[hx] at hd
   |some d=>simp[hx] at hd;exact⟨d,rfl,hd⟩
  refine⟨by simp[h1],by rw[hod];simp[Act.put,h2],by rw[hod];simp[Act.put,h3],h4.trans (hb.mono h4.size),fun t ht=>?_,fun j oj hj hl=>?_⟩
  ·have hne:d≠t:=fun e=>ht o hom (by rw[hod,e])
   rw[hod];simp only[Act.put];rw[Array.getElem?_setIfInBounds_ne hne];exact h5 t ht
  ·by_cases hij:i=j
   ·subst hij;obtain rfl:o=oj:=by rw[ho'] at hj;exact Option.some.inj hj
    have:qaD (a.put o.dst v) o=v:=by simp[qaD,hod,Act.put,h2,hdlt]
    rw[this];exact hF
   ·rw[getD_set_ne false hij] at hl;have hF':=hkeep _ _ _ _ (h6 j oj hj hl) hb
    have:qaD (a.put o.dst v) oj=qaD a oj:=by
     unfold qaD
     cases hoj:oj.dst with
     |none=>rfl
     |some t=>
      have hne:d≠t:=fun e=>hij (hdd i j o oj d ho' hj hod (by rw[hoj,e]))
      rw[hod];simp[Act.put,Array.getElem?_setIfInBounds_ne hne]
    rw[this];exact hF'
 ·rintro listed a w ⟨h1,h2,h3,h4,h5,h6⟩ hr;have hal:=qeD hlow' listed (by simpa using h1) hr;refine hend a w h4 (fun i o ho=>h6 i o ho (hal i ?_)) (qhc a a0 l h2 h3 h5);have:=(List.getElem?_eq_some_iff.1 ho).1;simpa using this
 ·rw[show l.toArray.size=l.length by simp,Array.toList_replicate,qa3];exact Nat.le_trans (List.length_filter_le _ _) (by simp)
 ·refine⟨by simp,rfl,rfl,(Below.refl _ _).trans ⟨rfl,rfl,rfl,Nat.le_refl _,fun _ _=>rfl⟩,fun _ _=>rfl,fun i o ho hl=>?_⟩;have:=(List.getElem?_eq_some_iff.1 ho).1;simp[this] at hl
end
section
variable {P:Program} {ops:Array Oper} {Q:Exit→Act→World→Prop} {a:Act} {w:World} {K:Act→World→Prop} {i:Nat} {o:Oper}
def Met (ops:Array Oper) (a:Act) (o:Oper):Prop:=Region.wanted o (yielded ops a.tmps)=true
theorem qab (h:o.guard=none):Met ops a o:=by unfold Met Region.wanted;rw[h]
theorem qaz {j:Nat} {b:Bool} {o':Oper} {t:Nat} (h:o.guard=some (j,b)) (hj:ops[j]?=some o') (ht:o'.dst=some t) (hv:a.tmps.getD t undef= .bool b):Met ops a o:=by
 have:a.tmps[t]?=some (.bool b):=by
  rcases Nat.lt_or_ge t a.tmps.size with h'|h'
  ·simp[h'] at hv;simp[h',hv]
  ·simp[Array.getElem?_eq_none h',undef] at hv
 unfold Met Region.wanted;rw[h];simp[yielded,hj,ht,this]
theorem qav {v:Value} {w':World} (ho:ops[i]?=some o) (hm:Met ops a o) (hr:(execOp a.eval o).run P w= .ok (.value v) w') (hk:K (a.put o.dst v) w'):wpOp P ops Q i K a w:=by
 unfold Met at hm;unfold wpOp;simp only[ho,hm,if_true];left;unfold Oper.wp;rw[hr];exact hk
theorem qal {x:Operand} (ho:ops[i]?=some o) (hm:Met ops a o) (hop:o.op= .move x∨o.op= .assign x) (hk:K (a.put o.dst (a.eval x)) w):wpOp P ops Q i K a w:=by
 refine qav ho hm (v:=a.eval x) (w':=w) ?_ hk;rcases hop with h|h<;>simp[execOp,h]
theorem qbw {f:FuncId} {dst:Option Tmp} {xs:Array Operand} {ats:Array TypeId} {ty:TypeId} {pos:String} {after:Array Edge} {guard:Option (Nat×Bool)}
 (ho:ops[i]?=some {dst,op:= .call {callee:= .value (.func f),args:=xs,argTypes:=ats},type:=ty,pos,after,guard}) (hm:Met ops a {dst,op:= .call {callee:= .value (.func f),args:=xs,argTypes:=ats},type:=ty,pos,after,guard})
 (args:Array Value) (hargs:#[]++xs.map a.eval++#[]=args) (hf:(callFunc f args).run P w= .ok (.enter f args) w)
 (hc:Calls P f args w fun e w'=> ∃v,e= .returned v∧K (a.put dst v) w'):wpOp P ops Q i K a w:=by
 unfold Met at hm;unfold wpOp;simp only[ho,hm,if_true];left;unfold Oper.wp
 have:(execOp a.eval {dst,op:= .call {callee:= .value (.func f),args:=xs,argTypes:=ats},type:=ty,pos,after,guard}).run P w= .ok (.enter f args) w:=by
  show(callFunc f (#[]++xs.map a.eval++#[])).run P w=_;rw[hargs,hf]
 rw[this];exact hc.mono fun e w' ⟨v,he,hk⟩=>by subst he;exact hk
theorem qna {x:Operand} {v:Value} (h:a.eval x=v):#[]++#[x].map a.eval++#[]=#[v]:=by simp[h]
theorem qsn {x y:Operand} {v u:Value} (h:a.eval x=v) (g:a.eval y=u):#[]++#[x,y].map a.eval++#[]=#[v,u]:=by simp[h,g]
theorem qfP {c x y:Operand} {b:Bool} (ho:ops[i]?=some o) (hm:Met ops a o) (hop:o.op= .pick c x y) (hc:a.eval c= .bool b) (hk:K (a.put o.dst (if b then a.eval x else a.eval y)) w):wpOp P ops Q i K a w:=by
 refine qav ho hm (v:=if b then a.eval x else a.eval y) (w':=w) ?_ hk;simp[execOp,hop,hc,asBool,Result.andThen]
theorem qaS {x:Operand} {t:TypeId} {v:Value} {p:Value} (ho:ops[i]?=some o) (hm:Met ops a o) (hop:o.op= .load t x) (hx:a.eval x=p) (hr:(execOp (fun _=>p) {o with op:= .load t x}).run P w= .ok (.value v) w) (hk:K (a.put o.dst v) w):wpOp P ops Q i K a w:=by
 refine qav ho hm (v:=v) (w':=w) ?_ hk;obtain⟨dst,op,ty,pos,after,guard⟩:=o;simp only at hop;subst hop;simpa [execOp,hx] using hr
theorem qat {x y:Operand} {op:BinOp} {t t2:TypeId} {u v r:Value} {w':World} (ho:ops[i]?=some o) (hm:Met ops a o) (hop:o.op= .binOp op t x y t2) (hx:a.eval x=u) (hy:a.eval y=v)
 (hr:(do eqGuard op t x y u v;binOp op t u v:Sem Value).run P w= .ok r w') (hk:K (a.put o.dst r) w'):wpOp P ops Q i K a w:=by
 refine qav ho hm (v:=r) (w':=w') ?_ hk;simp only[execOp,hop,hx,hy];rw[Sem.run_bind,hr];rfl
theorem qbG {x:Operand} {t:TypeId} {n:Nat} {v r:Value} (ho:ops[i]?=some o) (hm:Met ops a o) (hop:o.op= .fieldAddr t x n) (hx:a.eval x=v) (hr:(Instr.fieldAt t v n).run P w= .ok r w)
 (hk:K (a.put o.dst r) w):wpOp P ops Q i K a w:=by
 refine qav ho hm (v:=r) (w':=w) ?_ hk;simp[execOp,hop,hx,hr,Result.andThen]
end
section
variable {P:Program} {Q:Exit→Act→World→Prop}
theorem qer {id:Nat} {l:List Oper} {s:Oper} {a0:Act} {w0:World} (F:Nat→Value→World→Prop)
 (hm:P.follows .mixedOrders=true)
 (hlow:(List.range (l.length+1)).all (fun i=>(((l++[s])[i]?).map fun o=>o.after.all fun e=>decide (e.on<i)).getD true)=true)
 (hdist:(l.map (·.dst)).Pairwise (· ≠ ·))
 (hdst:l.all (fun o=>(o.dst.map fun d=>decide (d<a0.tmps.size)).getD false)=true)
 (hlast:(List.range l.length).all (fun i=>s.after.any fun e=>decide (e.on=i)&&Region.binds .any e)=true)
 (hkeep: ∀i v w w',F i v w→Below w.heap.size w w'→F i v w')
 (hstep: ∀i o,l[i]?=some o→ ∀a w,Below w0.heap.size w0 w→(∀t,(∀o∈l,o.dst≠some t)→a.tmps.getD t undef=a0.tmps.getD t undef)→a.tmps.size=a0.tmps.size→
   (∀e∈o.after,Region.binds .any e=true→ ∀o',l[e.on]?=some o'→F e.on (qaD a o') w)→
   wpOp P (l++[s]).toArray Q i (fun a' w'=> ∃v,a'=a.put o.dst v∧Below w.heap.size w w'∧F i v w') a w)
 (hend: ∀a w,Below w0.heap.size w0 w→(∀i o,l[i]?=some o→F i (qaD a o) w)→a=l.foldl (qap a) a0→wpOp P (l++[s]).toArray Q l.length (fun a' w'=>Q .normal a' w') a w):
 (Code.region id (l++[s]).toArray true).wp P Q a0 w0:=by
 refine wp_region_any hm ?_
 have hlow': ∀(i:Nat) (o:Oper),(l++[s]).toArray[i]?=some o→ ∀e∈o.after,e.on<i:=by
  intro i o ho e he;have ho2:(l++[s])[i]?=some o:=by simpa using ho
  have hi:i<l.length+1:=by
   have:=(List.getElem?_eq_some_iff.1 ho2).1;simpa using this
  have:=List.all_eq_true.1 hlow i (List.mem_range.2 hi);rw[ho2] at this;simp at this;obtain⟨k,hk,rfl⟩:=Array.mem_iff_getElem.1 he;exact this k hk
 have hdd: ∀(i j:Nat) oi oj t,l[i]?=some oi→l[j]?=some oj→oi.dst=some t→oj.dst=some t→i=j:=by
  intro i j oi oj t hi hj e1 e2;obtain⟨hi1,hi2⟩:=List.getElem?_eq_some_iff.1 hi;obtain⟨hj1,hj2⟩:=List.getElem?_eq_some_iff.1 hj;rw[List.pairwise_iff_getElem] at hdist;rcases Nat.lt_trichotomy i j with h|h|h
  ·exact absurd (by rw[List.getElem_map,List.getElem_map,hi2,hj2,e1,e2]) (hdist i j (by simpa) (by simpa) h)
  ·exact h
  ·exact absurd (by rw[List.getElem_map,List.getElem_map,hi2,hj2,e1,e2]) (hdist j i (by simpa) (by simpa) h)
 refine qd9 (I:=fun listed a w=>listed.size=l.length+1∧((listed.getD l.length false=true∧(∀i,i<l.length→listed.getD i false=true)∧Q .normal a w)∨(listed.getD l.length false=false∧a.tmps.size=a0.tmps.size∧a.defers=a0.defers∧Below w0.heap.size w0 w∧(∀t,(∀o∈l,o.dst≠some t)→a.tmps[t]?=a0.tmps[t]?)∧(∀i o,l[i]?=some o→listed.getD i false=true→F i (qaD a o) w)))) ?_ ?_ _ _ _ _ ?_ ?_
 ·rintro listed a w i ⟨h1,hI⟩ hi;obtain⟨hu,o,ho,haft⟩:=mem_ready.1 hi;have ho':(l++[s])[i]?=some o:=by simpa using ho
  have hilt:i<l.length+1:=by
   have:=(List.getElem?_eq_some_iff.1 ho').1;simpa using this
  have hif:listed.getD i false=false:=by
   have h2:i<listed.size:=by omega
   simp[h2] at hu⊢;exact hu
  rcases hI with ⟨g1,g2,_⟩|⟨g1,h2,h3,h4,h5,h6⟩
  ·exfalso;rcases Nat.lt_or_ge i l.length with hl|hl
   ·rw[g2 i hl] at hif;cases hif
   ·obtain rfl:i=l.length:=by omega
    rw[g1] at hif;cases hif
  rcases Nat.lt_or_ge i l.length with hl|hl
  ·have ho2:l[i]?=some o:=by rw[List.getElem?_append_left hl] at ho';exact ho'
   refine wpOp_mono ?_ (hstep i o ho2 a w h4 (fun t ht=>by simp[h5 t ht]) h2 (fun e he hb o' hoe=>h6 _ _ hoe (haft e he hb)));rintro a' w' ⟨v,rfl,hb,hF⟩;have hom:o∈l:=List.mem_of_getElem? ho2;have hd:=List.all_eq_true.1 hdst o hom
   obtain⟨d,hod,hdlt⟩: ∃d,o.dst=some d∧d<a0.tmps.size:=by
    cases hx:o.dst with
    |none=>simp[hx] at hd
    |some d=>simp[hx] at hd;exact⟨d,rfl,hd⟩
   refine⟨by simp[h1],.inr ⟨?_,by rw[hod];simp[Act.put,h2],by rw[hod];simp[Act.put,h3],h4.trans (hb.mono h4.size),fun t ht=>?_,fun j oj hj hlj=>?_⟩⟩
   ·rw[getD_set_ne false (by omega:i≠l.length)];exact g1
   ·have hne:d≠t:=fun e=>ht o hom (by rw[hod,e])
    rw[hod];simp only[Act.put];rw[Array.getElem?_setIfInBounds_ne hne];exact h5 t ht
   ·by_cases hij:i=j
    ·subst hij;obtain rfl:o=oj:=by rw[ho2] at hj;exact Option.some.inj hj
     have:qaD (a.put o.dst v) o=v:=by simp[qaD,hod,Act.put,h2,hdlt]
     rw[this];exact hF
    ·rw[getD_set_ne false hij] at hlj;have hF':=hkeep _ _ _ _ (h6 j oj hj hlj) hb
     have:qaD (a.put o.dst v) oj=qaD a oj:=by
      unfold qaD
      cases hoj:oj.dst with
      |none=>rfl
      |some t=>
       have hne:d≠t:=fun e=>hij (hdd i j o oj d ho2 hj hod (by rw[hoj,e]))
       rw[hod];simp[Act.put,Array.getElem?_setIfInBounds_ne hne]
     rw[this];exact hF'
  ·obtain rfl:i=l.length:=by omega
   have ho2:s=o:=by rw[List.getElem?_append_right (Nat.le_refl _)] at ho';simpa using ho'
   subst ho2
   have hall: ∀j,j<l.length→listed.getD j false=true:=fun j hj=>by
    have:=List.all_eq_true.1 hlast j (List.mem_range.2 hj);rw[Array.any_eq_true] at this;obtain⟨k,hk,hk2⟩:=this;rw[Bool.and_eq_true,decide_eq_true_eq] at hk2;have:=haft _ (Array.getElem_mem hk) hk2.2;rw[hk2.1] at this;exact this
   refine wpOp_mono ?_ (hend a w h4 (fun j o hj=>h6 j o hj (hall j ?_)) (qhc a a0 l h2 h3 h5))
   ·intro a' w' hQ;refine⟨by simp[h1],.inl ⟨?_,fun j hj=>?_,hQ⟩⟩
    ·have h2:l.length<listed.size:=by omega
     simp[h2]
    ·rw[getD_set_ne false (by omega:l.length≠j)];exact hall j hj
   ·exact(List.getElem?_eq_some_iff.1 hj).1
 ·rintro listed a w ⟨h1,hI⟩ hr;have hal:=qeD hlow' listed (by simpa using h1) hr;rcases hI with ⟨_,_,hQ⟩|⟨g1,_⟩
  ·exact hQ
  ·rw[hal l.length (by simp)] at g1;cases g1
 ·rw[show(l++[s]).toArray.size=l.length+1 by simp,Array.toList_replicate,qa3];exact Nat.le_trans (List.length_filter_le _ _) (by simp)
 ·refine⟨by simp,.inr ⟨by simp,rfl,rfl,(Below.refl _ _).trans ⟨rfl,rfl,rfl,Nat.le_refl _,fun _ _=>rfl⟩,fun _ _=>rfl,fun i o ho hl=>?_⟩⟩;have:=(List.getElem?_eq_some_iff.1 ho).1;have h2:i<l.length+1:=by omega
  simp[h2] at hl
end
section
variable {P:Program} {Q:Exit→Act→World→Prop}
theorem qb8 {id:Nat} {L:List Oper} {a0:Act} {w0:World} (n:Nat) (F:Nat→Value→World→Prop)
 (hn:L.length=n+1) (hm:P.follows .mixedOrders=true)
 (hlow:(List.range (n+1)).all (fun i=>((L[i]?).map fun o=>o.after.all fun e=>decide (e.on<i)).getD true)=true)
 (hdist:((L.take n).map (·.dst)).Pairwise (· ≠ ·))
 (hdst:(L.take n).all (fun o=>(o.dst.map fun d=>decide (d<a0.tmps.size)).getD false)=true)
 (hlast:((L[n]?).map fun s=>(List.range n).all fun i=>s.after.any fun e=>decide (e.on=i)&&Region.binds .any e).getD false=true)
 (hkeep: ∀i v w w',F i v w→Below w.heap.size w w'→F i v w')
 (hstep: ∀i,i<n→ ∀o,L[i]?=some o→ ∀a w,Below w0.heap.size w0 w→(∀t,(∀o∈L.take n,o.dst≠some t)→a.tmps.getD t undef=a0.tmps.getD t undef)→a.tmps.size=a0.tmps.size→
   (∀e∈o.after,Region.binds .any e=true→ ∀o',(L.take n)[e.on]?=some o'→F e.on (qaD a o') w)→
   wpOp P L.toArray Q i (fun a' w'=> ∃v,a'=a.put o.dst v∧Below w.heap.size w w'∧F i v w') a w)
 (hend: ∀a w,Below w0.heap.size w0 w→(∀i,i<n→ ∀o,L[i]?=some o→F i (qaD a o) w)→a=(L.take n).foldl (qap a) a0→wpOp P L.toArray Q n (fun a' w'=>Q .normal a' w') a w):
 (Code.region id L.toArray true).wp P Q a0 w0:=by
 have hlen:(L.take n).length=n:=by rw[List.length_take];omega
 have hs: ∃s,L[n]?=some s:=⟨L[n],List.getElem?_eq_getElem (by omega)⟩;obtain⟨s,hs⟩:=hs;obtain⟨h1,h2⟩:=List.getElem?_eq_some_iff.1 hs;have h0:L.drop n=[s]:=by rw[List.drop_eq_getElem_cons h1,h2,List.drop_of_length_le (by omega)]
 have hL:L=L.take n++[s]:=by rw[←h0,List.take_append_drop]
 have hget: ∀i,i<n→(L.take n)[i]?=L[i]?:=fun i hi=>List.getElem?_take_of_lt hi
 have key:=qer (P:=P) (Q:=Q) (id:=id) (l:=L.take n) (s:=s) (a0:=a0) (w0:=w0) F hm (by rw[hlen,←hL];exact hlow) hdist hdst (by rw[hlen];rw[hs] at hlast;exact hlast) hkeep
  (by
    intro i o ho a w hb hout hsz hpre;have hi:i<n:=by have:=(List.getElem?_eq_some_iff.1 ho).1;omega
    rw[←hL]
    exact hstep i hi o (by rw[←hget i hi];exact ho) a w hb hout hsz hpre)
  (by
    intro a w hb hF ha;rw[hlen,←hL]
    exact hend a w hb (fun i hi o ho=>hF i o (by rw[hget i hi];exact ho)) ha)
 rw[←hL] at key;exact key
end
end Go.Proofs.YtdeimnnpcfncpaaGreatDoor
end
