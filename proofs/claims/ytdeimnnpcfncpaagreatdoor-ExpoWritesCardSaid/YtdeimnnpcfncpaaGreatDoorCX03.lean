/- Parts of the proof: J1 J2 J3. -/
import Derived.WalkKit
import Derived.WalkSpells
import Derived.Laws.AppendOwnNone
import Derived.Test.YtdeimnnpcfncpaaGreatDoorCX00
set_option linter.unusedVariables false
set_option linter.unusedSimpArgs false
set_option maxRecDepth 100000
set_option maxHeartbeats 64000000
section
namespace Go.Proofs.YtdeimnnpcfncpaaGreatDoor
open Go.RowKit
def qax (c:UInt8):Value:= .int .u8 (c.toNat:Int)
theorem qof (c:UInt8):(qax c).oneCell'=true:=rfl
theorem qhq {w:World} {base:Nat} {e g n cap:Nat} {l:List UInt8} (h:w.ownsRow base e 1 (.slice (some ⟨g,0,none⟩) n cap) n (l.map qax)) (j:Nat) (hj:j<l.length):
 w.cell? ⟨g,j,none⟩=some (.int .u8 (l[j].toNat:Int)):=by
 have hl:l.length=n:=by have:=h.1;simpa using this
 rw[h.cellAt j (by omega)];simp[qax,List.getElem?_eq_getElem hj]
theorem qdd {P:Program} {w:World} {src dst e base:Nat} {v:Value} {n:Nat} {l:List UInt8} (hs:P.underlying src=some (.slice e)) (he:P.underlying e=some (.int .u8)) (hd:P.underlying dst=some .string)
 (h:w.ownsRow base e 1 v n (l.map qax)):(convert src dst v).run P w= .ok (.string ⟨l.toArray⟩) w:=by
 have hl:l.length=n:=by have:=h.1;simpa using this
 have h':=h;rcases h.2 with ⟨rfl,rfl⟩|⟨g,cap,cur,rfl,_⟩
 ·obtain rfl:l=[]:=by simpa using hl
  exact run_convert_bytes_nil w src e hs he 0 0 dst hd
 ·subst hl;refine run_convert_bytes_back w src dst e ⟨g,0,none⟩ cap l hs he hd (fun j hj=>?_);rw[show(⟨g,0,none⟩:Addr).add j=⟨g,j,none⟩ by simp[Addr.add];omega];exact qhq h' j hj
theorem qb6 {P:Program} {ops:Array Oper} {rest:List Oper} {o:Oper} {a:Act} {Q:Exit→Act→World→Prop} {w:World} (hgd:o.guard=none) (s x:Operand) (t:TypeId)
 (ho:o.op= .call {callee:= .builtin .append,args:=#[s,x],argTypes:=#[t,t]})
 {e:TypeId} {u:Value} (base:Nat) (z:Value) (bytes:Nat) (ht:P.underlying t=some (.slice e)) (hinfo:(P.info? e).map (fun i=>(i.zero,i.size,i.bytes))=some (some z,1,bytes)) (hzs:z.cells.size=1)
 (v:Value) (n:Nat) (xs:List Value) (hs:a.eval s=v) (hx:a.eval x= .slice (some ⟨w.heap.size,0,none⟩) 1 1) (hown:w.ownsRow base e 1 v n xs) (hu:u.oneCell'=true)
 (hb1:1≤bytes) (hbytes:(n+1)*bytes≤140737488355328) (hbase:base≤w.heap.size)
 (h: ∀v' w',w'.ownsRow base e 1 v' (n+1) (xs++[u])→Below base w w'→w.heap.size≤w'.heap.size→(∀row,v.ownBlock≠some row→row<w.heap.size→w'.heap[row]?=w.heap[row]?)→(∃g cap,v'= .slice (some ⟨g,0,none⟩) (n+1) cap)→wpList P ops Q rest (a.put o.dst v') w'):
 wpList P ops Q (o::rest) a (w.alloc (.cells #[u] e)):=by
 obtain⟨i,hi,hz0,hz1,hz2⟩:=info_parts hinfo;have hn:n+1≤(n+1)*bytes:=Nat.le_mul_of_pos_right _ hb1;refine wpList_append_own _ hgd s x t ho base e i z 1 bytes ht hi hz0 hz1 hz2 hzs (by decide) v n xs hs (hown.alloc _) ⟨w.heap.size,0,none⟩ 1 1 [u] hx rfl (cell_one_new _ _ _) (by intro u' hu';simp at hu';subst hu';exact hu) (by unfold maxLen;omega) (by omega) (by simp;omega) ?_;intro v' w' hown' hg hnil;have hsz:w.heap.size+1≤w'.heap.size:=by have:=hg.size;simpa using this
 refine h v' w' hown' ?_ (by omega) ?_ ?_
 ·refine((Below.refl base w).alloc hbase _).grown hg (by simp;omega) (fun k e'=>?_);exact((hown.alloc (.cells #[u] e)).lt k e').1
 ·intro row hrow hlt;rw[hg.block row (by simp;omega) (fun e'=>hrow e'.symm)];exact Below.heap_alloc _ _ _ hlt
 ·rcases hown'.2 with ⟨rfl,h0⟩|⟨g,cap,cur,rfl,_⟩
  ·omega
  ·exact⟨g,cap,rfl⟩
def Row (W:World) (v:Value) (xs:List Value):Prop:=
 (∃a c,(a=none→c=0)∧v= .slice a 0 c∧xs=[])∨ ∃b off cap,v= .slice (some ⟨b,off,none⟩) xs.length cap∧b<W.heap.size∧xs.length≤cap∧cap≤maxLen∧ ∀i (hi:i<xs.length),W.cell? ⟨b,off+i,none⟩=some xs[i]
theorem Row.on {W W':World} {v:Value} {xs:List Value} (h:Row W v xs) (hb:Below W.heap.size W W'):Row W' v xs:=by
 rcases h with h|⟨b,off,cap,rfl,hlt,h1,h2,hc⟩
 ·exact .inl h
 ·exact .inr ⟨b,off,cap,rfl,Nat.lt_of_lt_of_le hlt hb.size,h1,h2,fun i hi=>(hb.cell (p:=⟨b,off+i,none⟩) hlt).trans (hc i hi)⟩
theorem qlU {P:Program} {ops:Array Oper} {rest:List Oper} {o:Oper} {a:Act} {Q:Exit→Act→World→Prop} {w:World} (hgd:o.guard=none) (s x:Operand) (t:TypeId)
 (ho:o.op= .call {callee:= .builtin .append,args:=#[s,x],argTypes:=#[t,t]})
 (base:Nat) (e:TypeId) (z:Value) (bytes:Nat) (ht:P.underlying t=some (.slice e)) (hinfo:(P.info? e).map (fun i=>(i.zero,i.size,i.bytes))=some (some z,1,bytes)) (hzs:z.cells.size=1)
 (v:Value) (n:Nat) (xs:List Value) (hs:a.eval s=v) (u:Value) (news:List Value) (hx:a.eval x=u) (hown:w.ownsRow base e 1 v n xs) (hrow:Row w u news) (hone: ∀c∈news,c.oneCell'=true)
 (hb1:1≤bytes) (hbytes:(n+news.length)*bytes≤140737488355328) (hbase:base≤w.heap.size)
 (h: ∀v' w',w'.ownsRow base e 1 v' (n+news.length) (xs++news)→Below base w w'→(∀row,v.ownBlock≠some row→row<w.heap.size→w'.heap[row]?=w.heap[row]?)→(v'= .slice none 0 0↔v= .slice none 0 0∧news=[])→wpList P ops Q rest (a.put o.dst v') w'):
 wpList P ops Q (o::rest) a w:=by
 obtain⟨i,hi,hz0,hz1,hz2⟩:=info_parts hinfo;have hn:n+news.length≤(n+news.length)*bytes:=Nat.le_mul_of_pos_right _ hb1;rcases hrow with ⟨a',c',hac,rfl,rfl⟩|⟨b,off,cap,rfl,hlt,h1,h2,hc⟩
 ·cases a' with
  |none=>
   rw[hac rfl] at hx;refine wpList_append_own_none hgd s x t ho base e i 1 ht hi v n xs hs hown hx (h v w ?_ (Below.refl _ _) (fun _ _ _=>rfl) ?_)
   ·simpa using hown
   ·simp
  |some ad=>
   refine wpList_append_own _ hgd s x t ho base e i z 1 bytes ht hi hz0 hz1 hz2 hzs (by decide) v n xs hs hown ad 0 c' [] hx (by simp) (by intro j c hj;simp at hj) hone (by unfold maxLen;simp at hn hbytes;omega) hbytes hbase ?_;intro v' w' hown' hg hnil;refine h v' w' hown' ((Below.refl base w).grown hg hbase (fun k e'=>(hown.lt k e').1)) (fun row hrow hlt=>hg.block row hlt (fun e'=>hrow e'.symm)) ?_;rw[hnil];simp
 ·refine wpList_append_own _ hgd s x t ho base e i z 1 bytes ht hi hz0 hz1 hz2 hzs (by decide) v n xs hs hown ⟨b,off,none⟩ news.length cap news hx (by omega) ?_ hone (by unfold maxLen;omega) hbytes hbase ?_
  ·intro j c hj;obtain⟨hj',rfl⟩:=List.getElem?_eq_some_iff.1 hj;rw[show(⟨b,off,none⟩:Addr).add j=⟨b,off+j,none⟩ by simp[Addr.add]];exact hc j hj'
  ·intro v' w' hown' hg hnil;refine h v' w' hown' ((Below.refl base w).grown hg hbase (fun k e'=>(hown.lt k e').1)) (fun row hrow hlt=>hg.block row hlt (fun e'=>hrow e'.symm)) ?_;rw[hnil];simp[List.length_eq_zero_iff]
end Go.Proofs.YtdeimnnpcfncpaaGreatDoor
end
section
namespace Go.Proofs.YtdeimnnpcfncpaaGreatDoor
open Go Go.RowKit
structure qaF (w:World) (B e g n cap:Nat) (xs:List Value):Prop where
 len:xs.length=n
 low:B≤g
 cap1:n≤cap
 cap2:cap≤maxLen
 obj: ∃cur fz,w.heap[g]?=some (.cells cur e fz)∧(fz=(0,0)∨cap≤fz.1)∧cur.size=cap∧cur.toList.take n=xs
theorem qaF.of_own {w:World} {B e g n cap:Nat} {xs:List Value} (h:w.ownsRow B e 1 (.slice (some ⟨g,0,none⟩) n cap) n xs):qaF w B e g n cap xs:=by
 rcases h.2 with ⟨h0,_⟩|⟨g',cap',cur,hv,hb,hg,h1,h2,h3,h4⟩
 ·cases h0
 ·cases hv;exact⟨by have:=h.1;omega,hb,h1,h2,cur,(0,0),hg,.inl rfl,by omega,by rw[Nat.mul_one] at h4;exact h4⟩
theorem qaF.cell {w:World} {B e g n cap:Nat} {xs:List Value} (h:qaF w B e g n cap xs) (i:Nat) (hi:i<n):w.cell? ⟨g,i,none⟩=xs[i]?:=by
 obtain⟨cur,fz,h1,h2,h3,h4⟩:=h.obj;unfold World.cell?;simp only[h1];rw[←h4,List.getElem?_take,if_pos hi];simp
theorem qaF.frozen {w:World} {B e g n cap:Nat} {xs:List Value} (h:qaF w B e g n cap xs) (i:Nat) (hi:i<cap):w.frozen? ⟨g,i,none⟩=false:=by
 obtain⟨cur,fz,h1,h2,h3,h4⟩:=h.obj;unfold World.frozen?;simp only[h1];rcases h2 with rfl|h2
 ·simp
 ·obtain⟨lo,hi'⟩:=fz;have h2':cap≤lo:=h2;simp;intro h;omega
theorem qaF.store {w:World} {B e g n cap:Nat} {xs:List Value} (h:qaF w B e g n cap xs) (i:Nat) (u:Value):qaF (w.setCell ⟨g,i,none⟩ u) B e g n cap (xs.set i u):=by
 obtain⟨cur,fz,h1,h2,h3,h4⟩:=h.obj;refine⟨by rw[List.length_set];exact h.len,h.low,h.cap1,h.cap2,cur.setIfInBounds i u,fz,?_,h2,by simp[h3],?_⟩
 ·simp[World.setCell,Array.getElem?_modify,h1]
 ·rw[Array.toList_setIfInBounds,List.take_set,h4]
theorem qaF.push {w:World} {B e g n cap:Nat} {xs:List Value} (h:qaF w B e g n cap xs) (hn:n<cap) (u:Value):qaF (w.setCell ⟨g,n,none⟩ u) B e g (n+1) cap (xs++[u]):=by
 obtain⟨cur,fz,h1,h2,h3,h4⟩:=h.obj;refine⟨by rw[List.length_append,h.len];rfl,h.low,hn,h.cap2,cur.setIfInBounds n u,fz,?_,h2,by simp[h3],?_⟩
 ·simp[World.setCell,Array.getElem?_modify,h1]
 ·have hl:n<cur.toList.length:=by simp;omega
  rw[Array.toList_setIfInBounds,List.take_set,List.take_add_one,h4,List.getElem?_eq_getElem hl];show(xs++[cur.toList[n]]).set n u=_;rw[List.set_append_right _ _ (by rw[h.len];exact Nat.le_refl _),h.len,Nat.sub_self];rfl
theorem qaF.oth {w w':World} {B e g n cap:Nat} {xs:List Value} (h:qaF w B e g n cap xs) (hg:w'.heap[g]?=w.heap[g]?):qaF w' B e g n cap xs:=by
 obtain⟨cur,fz,h1,h2⟩:=h.obj;exact⟨h.len,h.low,h.cap1,h.cap2,cur,fz,hg.trans h1,h2⟩
theorem qaF.lt {w:World} {B e g n cap:Nat} {xs:List Value} (h:qaF w B e g n cap xs):g<w.heap.size:=by
 obtain⟨cur,fz,h1,_⟩:=h.obj;exact(Array.getElem?_eq_some_iff.1 h1).1
theorem qaF.ne {w:World} {B e g n cap b:Nat} {xs:List Value} {v:Value} {t:TypeId} (h:qaF w B e g n cap xs) (hb:w.heap[b]?=some (.cells #[v] t (0,0))) (hne:e≠t):g≠b:=by
 obtain⟨cur,fz,h1,_⟩:=h.obj;intro e';rw[e',hb] at h1;simp only[Option.some.injEq,Obj.cells.injEq] at h1;exact hne h1.2.1.symm
section
variable {P:Program} (w:World)
theorem qfN (t ty e:TypeId) (i:TypeInfo) (ht:P.underlying t=some (.slice e)) (hi:P.info? e=some i) (hsize:i.size=1)
 (g n cap:Nat) (a:Addr) (c:Nat) (u:Value) (hu:w.cell? a=some u) (h1:u.oneCell'=true) (hc:(w.cell? ⟨g,n,none⟩).isSome=true) (hf:w.frozen? ⟨g,n,none⟩=false) (hroom:n<cap):
 (Builtin.append_ #[t,t] ty #[.slice (some ⟨g,0,none⟩) n cap,.slice (some a) 1 c]).run P w= .ok (.slice (some ⟨g,0,none⟩) (n+1) cap) (w.setCell ⟨g,n,none⟩ u):=by
 have hf1:=run_firstCells_some (P:=P) w i.size 1 a 1 c [u] (by rw[hsize];rfl) (fun j v hj=>by
  cases j with
  |zero=>simp at hj;subst hj;rw[show a.add 0=a by simp[Addr.add]];exact hu
  |succ j=>simp at hj)
 have hst:(storeCells ⟨g,n,none⟩ [u] 0).run P w= .ok () (w.setCell ⟨g,n,none⟩ u):=by
  obtain⟨x,hx⟩:=Option.isSome_iff_exists.1 hc
  have hs:(store ((⟨g,n,none⟩:Addr).add 0) u).run P w= .ok () (w.setCell ⟨g,n,none⟩ u):=by
   rw[show(⟨g,n,none⟩:Addr).add 0=⟨g,n,none⟩ by simp[Addr.add],run_store P w _ u _ h1,hx];simp[hf]
  simp only[storeCells,Sem.run_bind,hs,Result.andThen_ok];rfl
 have hr:n+1≤cap:=hroom;rw[hsize] at hf1;simp[Builtin.append_,run_underlying ht,sizeOf,typeInfo,hi,hsize,Builtin.lenOf,hr,hf1,Addr.add_lit,hst]
theorem qhN (base:Nat) (t ty e:TypeId) (i:TypeInfo) (z:Value) (ht:P.underlying t=some (.slice e)) (hi:P.info? e=some i) (hz:i.zero=some z) (hsize:i.size=1) (hby:i.bytes=1) (hzs:z.cells.size=1)
 (g n cap:Nat) (xs:List Value) (h:qaF w base e g n cap xs) (a:Addr) (c:Nat) (u:Value) (hu:w.cell? a=some u) (h1:u.oneCell'=true) (hbytes:n+1≤140737488355328) (hbase:base≤w.heap.size):
 ∃g' cap' w',(Builtin.append_ #[t,t] ty #[.slice (some ⟨g,0,none⟩) n cap,.slice (some a) 1 c]).run P w= .ok (.slice (some ⟨g',0,none⟩) (n+1) cap') w'∧qaF w' base e g' (n+1) cap' (xs++[u])∧Below base w w'∧ ∀row,row≠g→row<w.heap.size→w'.heap[row]?=w.heap[row]?:=by
 by_cases hroom:n<cap
 ·have hc:(w.cell? ⟨g,n,none⟩).isSome=true:=by
   obtain⟨cur,fz,h2,_,h3,_⟩:=h.obj;unfold World.cell?;simp only[h2];simp;omega
  exact⟨g,cap,_,qfN w t ty e i ht hi hsize g n cap a c u hu h1 hc (h.frozen n hroom) hroom,h.push hroom u,(Below.refl base w).setCell h.low u,fun row hr _=>Below.heap_setCell w ⟨g,n,none⟩ u row hr⟩
 ·have hcap:cap=n:=by have:=h.cap1;omega
  have holds: ∀j v,xs[j]?=some v→w.cell? ((⟨g,0,none⟩:Addr).add j)=some v:=by
   intro j v hj
   have hjl:j<n:=by
    rcases Nat.lt_or_ge j n with g'|g'
    ·exact g'
    ·rw[List.getElem?_eq_none (by rw[h.len];exact g')] at hj;cases hj
   rw[show(⟨g,0,none⟩:Addr).add j=⟨g,j,none⟩ by unfold Addr.add;split<;>simp_all,h.cell j hjl];exact hj
  have hnews: ∀j v,[u][j]?=some v→w.cell? (a.add j)=some v:=fun j v hj=>by
   cases j with
   |zero=>simp at hj;subst hj;rw[show a.add 0=a by simp[Addr.add]];exact hu
   |succ j=>simp at hj
  have h63:n+1≤maxLen:=by unfold maxLen;omega
  have hr:=run_append_grow (P:=P) w t ty e i z ht hi hz ⟨g,0,none⟩ n cap xs (by rw[h.len,hsize,Nat.mul_one]) holds a 1 c [u] (by rw[hsize];rfl) hnews (by omega) (by omega) (growslice_fits (by omega) (by rw[hby];omega));have hge:=grownCap_ge w (n+1) cap e;have hcm:grownCap w (n+1) cap e≤maxLen:=grownCap_le_maxLen w (n+1) cap e h63;refine⟨_,_,_,hr,⟨by rw[List.length_append,h.len];rfl,hbase,hge,hcm,_,(0,0),heap_alloc_new w.drew _,.inl rfl,?_,?_⟩,(Below.drew (Below.refl base w)).alloc hbase _,fun row _ hlt=>Below.heap_alloc w.drew _ row hlt⟩
  ·simp only[Array.size_append,List.size_toArray,size_zeroCells,hzs,h.len,List.length_singleton];omega
  ·simp only[Array.toList_append,List.append_assoc];rw[←List.append_assoc];have hl:(xs++[u]).length=n+1:=by rw[List.length_append,h.len];rfl
   conv=>lhs;rw[←hl]
   exact List.take_left
end
theorem qcj {P:Program} {ops:Array Oper} {rest:List Oper} {o:Oper} {a:Act} {Q:Exit→Act→World→Prop} {w:World} (hgd:o.guard=none) (s x:Operand) (t:TypeId)
 (ho:o.op= .call {callee:= .builtin .append,args:=#[s,x],argTypes:=#[t,t]})
 {e:TypeId} {u:Value} (base:Nat) (z:Value) (ht:P.underlying t=some (.slice e)) (hinfo:(P.info? e).map (fun i=>(i.zero,i.size,i.bytes))=some (some z,1,1)) (hzs:z.cells.size=1)
 (g n cap:Nat) (xs:List Value) (hs:a.eval s= .slice (some ⟨g,0,none⟩) n cap) (hx:a.eval x= .slice (some ⟨w.heap.size,0,none⟩) 1 1) (hown:qaF w base e g n cap xs) (hu:u.oneCell'=true)
 (hbytes:n+1≤140737488355328) (hbase:base≤w.heap.size)
 (h: ∀g' cap' w',qaF w' base e g' (n+1) cap' (xs++[u])→Below base w w'→(∀row,row≠g→row<w.heap.size→w'.heap[row]?=w.heap[row]?)→wpList P ops Q rest (a.put o.dst (.slice (some ⟨g',0,none⟩) (n+1) cap')) w'):
 wpList P ops Q (o::rest) a (w.alloc (.cells #[u] e)):=by
 obtain⟨i,hi,hz0,hz1,hz2⟩:=info_parts hinfo;have hgl:=hown.lt;obtain⟨g',cap',w',hr,h1,h2,h3⟩:=qhN (P:=P) (w.alloc (.cells #[u] e)) base t o.type e i z ht hi hz0 hz1 hz2 hzs g n cap xs (hown.oth (Below.heap_alloc w _ g hgl)) ⟨w.heap.size,0,none⟩ 1 u (cell_one_new _ _ _ 0 u rfl) hu hbytes (by simp;omega);refine wpList_plain hgd fun _ hK=>?_
 unfold Oper.wp execOp;simp only[ho,resolve,invoke,builtin,Sem.run_bind,Sem.run_pure,Result.andThen_ok,List.map_toArray,List.map_cons,List.map_nil,hs,hx,hr];exact hK _ _ (h g' cap' w' h1 (((Below.refl base w).alloc hbase _).trans h2) fun row hr' hlt=>(h3 row hr' (by simp;omega)).trans (Below.heap_alloc w _ row hlt))
end Go.Proofs.YtdeimnnpcfncpaaGreatDoor
end
