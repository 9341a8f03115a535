/- Parts of the proof: B3. -/
import Derived.Laws.ResultCell
import Derived.Test.YtdeimnnpcfncpaaGreatDoorCY33
set_option linter.unusedVariables false
set_option linter.unusedSimpArgs false
set_option maxRecDepth 100000
set_option maxHeartbeats 64000000
namespace Go.Proofs.YtdeimnnpcfncpaaGreatDoor.X
open Go Go.RowKit
def qsY (l:List UInt8) (w:World) (x:Ending) (w':World):Prop:=
 ∃(v:Nat) (er:Int),x= .returned (.tuple #[.int .u64 (v:Int),.int .i64 er])∧((er=0∧qeF l=some v)∨(er≠0∧qeF l=none))∧Below w.heap.size w w'
def qqm (l:List UInt8):Prop:= ∀w,EGlb w→Calls Tryz.prog 73 #[.string (BS l)] w (qsY l w)
theorem qg5 {l:List UInt8} (hs:l.length≤780∨1200<l.length):qqm l:=fun w hG=>by
 have hd:(BS l).data.toList=l:=by simp[BS]
 refine(qnC (BS l) (by rw[qac];exact hs) w hG.b.a.p).mono ?_;rintro x w' ⟨hB,v,e,hv,rfl⟩;rw[hd] at hv;rcases hv with ⟨h1,rfl,rfl⟩|⟨h1,h2,rfl,rfl⟩|⟨h1,h2,h3,rfl,rfl⟩|⟨h1,h2,h3,rfl,r,hr,rfl⟩
 ·exact⟨0,3,rfl,.inr ⟨by decide,by unfold qeF;rw[if_pos h1]⟩,hB⟩
 ·exact⟨qrU l,0,rfl,.inl ⟨rfl,by unfold qeF;rw[if_neg (by omega),if_pos h2]⟩,hB⟩
 ·exact⟨0,210,rfl,.inr ⟨by decide,by unfold qeF;rw[if_neg (by omega),if_neg (by rw[h2];decide),if_neg (by rw[h3];decide)]⟩,hB⟩
 ·exact⟨_,0,rfl,.inl ⟨rfl,by unfold qeF;rw[if_neg (by omega),if_neg (by rw[h2];decide),if_pos h3,qh9 hr]⟩,hB⟩
def SB (D:Nat) (lv:Value) (b:Int) (st:Bool) (t:Int) (W:World):Prop:=W.heap[D]?=some (.cells #[lv,.int .u64 b,.bool st,.int .i64 t] 34 (0,0))
section
variable {D:Nat} {lv:Value} {b:Int} {st:Bool} {t:Int} {W W':World}
theorem SB.lt (h:SB D lv b st t W):D<W.heap.size:=(Array.getElem?_eq_some_iff.1 h).1
theorem SB.on (h:SB D lv b st t W) (hb:Below W.heap.size W W'):SB D lv b st t W':=(hb.block D h.lt).trans h
theorem SB.only {E:Nat} (h:SB D lv b st t W) (hb:Only E W W') (hn:D≠E):SB D lv b st t W':=(hb.block D h.lt hn).trans h
theorem SB.c0 (h:SB D lv b st t W):W.cell? ⟨D,0,none⟩=some lv:=by rw[Lib.cell_of_heap h];rfl
theorem SB.c1 (h:SB D lv b st t W):W.cell? ⟨D,1,none⟩=some (.int .u64 b):=by rw[Lib.cell_of_heap h];rfl
theorem SB.c2 (h:SB D lv b st t W):W.cell? ⟨D,2,none⟩=some (.bool st):=by rw[Lib.cell_of_heap h];rfl
theorem SB.c3 (h:SB D lv b st t W):W.cell? ⟨D,3,none⟩=some (.int .i64 t):=by rw[Lib.cell_of_heap h];rfl
theorem SB.fz (h:SB D lv b st t W) (i:Nat):W.frozen? ⟨D,i,none⟩=false:=Lib.frozen_of_heap h i
theorem SB.set0 (h:SB D lv b st t W) (v:Value):SB D v b st t (W.setCell ⟨D,0,none⟩ v):=by
 unfold SB at h⊢;simp[World.setCell,Array.getElem?_modify,h]
theorem SB.set1 (h:SB D lv b st t W) (v:Int):SB D lv v st t (W.setCell ⟨D,1,none⟩ (.int .u64 v)):=by
 unfold SB at h⊢;simp[World.setCell,Array.getElem?_modify,h]
theorem SB.set2 (h:SB D lv b st t W) (v:Bool):SB D lv b v t (W.setCell ⟨D,2,none⟩ (.bool v)):=by
 unfold SB at h⊢;simp[World.setCell,Array.getElem?_modify,h]
theorem SB.set3 (h:SB D lv b st t W) (v:Int):SB D lv b st v (W.setCell ⟨D,3,none⟩ (.int .i64 v)):=by
 unfold SB at h⊢;simp[World.setCell,Array.getElem?_modify,h]
end
theorem qai (W:World) (D i:Nat) (v:Value):Only D W (W.setCell ⟨D,i,none⟩ v):=
 ⟨rfl,rfl,rfl,by simp[World.setCell],fun k hk hn=>by unfold World.setCell;simp[Array.getElem?_modify,Ne.symm hn]⟩
def RdI (w0:World) (l:List UInt8) (W:World):Prop:=SB w0.heap.size (.slice none 0 0) 0 false 0 W∧Lft (w0.heap.size+1) l W∧Below w0.heap.size w0 W
theorem RdI.step {w0 W W':World} {l r:List UInt8} (h:RdI w0 l W) (h1:Lft (w0.heap.size+1) r W') (h2:Only (w0.heap.size+1) W W'):RdI w0 r W':=
 ⟨h.1.only h2 (by omega),h1,h.2.2.trans (h2.below (by omega) h.2.2.size)⟩
theorem RdI.on {w0 W W':World} {l:List UInt8} (h:RdI w0 l W) (hb:Below W.heap.size W W'):RdI w0 l W':=
 ⟨h.1.on hb,h.2.1.on hb,h.2.2.trans (hb.mono h.2.2.size)⟩
theorem RdI.other {w0 W W':World} {l:List UInt8} {E:Nat} (h:RdI w0 l W) (hb:Only E W W') (hE:w0.heap.size+1<E):RdI w0 l W':=
 ⟨h.1.only hb (by omega),(hb.block _ h.2.1.lt (by omega)).trans h.2.1,h.2.2.trans (hb.below (by omega) h.2.2.size)⟩
theorem RdI.start (w:World) (l:List UInt8):RdI w l ((w.alloc (.cells #[.slice none 0 0,.int .u64 0,.bool false,.int .i64 0] 34)).alloc (.cells #[.string (BS l)] 119)):=by
 refine⟨?_,?_,((Below.refl _ _).alloc (Nat.le_refl _) _).alloc (by simp) _⟩
 ·exact(Below.heap_alloc _ _ _ (by simp)).trans (World.alloc_heap_new w _)
 ·have:=World.alloc_heap_new (w.alloc (.cells #[.slice none 0 0,.int .u64 0,.bool false,.int .i64 0] 34)) (.cells #[.string (BS l)] 119);rw[World.size_alloc] at this;exact this
theorem qaq {fn:Func} {p u:Tmp} (h:fn.results=#[.cell p 34,.tmp u]) (tmps:Array Value) (w:World) (R:Nat) (lv:Value) (b:Int) (st:Bool) (t:Int) (hp:tmps.getD p undef= .pointer (some ⟨R,0,none⟩)) (hd:SB R lv b st t w):
 (results fn tmps).run Tryz.prog w= .ok (.tuple #[.agg #[lv,.int .u64 b,.bool st,.int .i64 t],tmps.getD u undef]) w:=by
 have c0:=hd.c0;have c1:=hd.c1;have c2:=hd.c2;have c3:=hd.c3;rw[results_cell_tmp h,hp];go_simp
def qte (base:Nat) (W:World) (v:Value) (s:Smp):Prop:= ∃lv,v= .agg #[lv,.int .u64 (s.bits:Int),.bool s.st,.int .i64 s.t]∧W.ownsRow base 44 2 lv s.ls.length (qaa s.ls)
def qmt (l:List UInt8) (w:World) (e:Ending) (w':World):Prop:=
 ∃v,e= .returned (.tuple #[v,.int .i64 (qay l).1])∧qte w.heap.size w' v (qay l).2∧Below w.heap.size w w'
theorem qs3 (base:Nat) (W:World):qte base W (.agg #[.slice none 0 0,.int .u64 0,.bool false,.int .i64 0]) qbj:=⟨_,rfl,qd8 _ _⟩
theorem RdI.zero {w0 W:World} {l:List UInt8} (h:RdI w0 l W):SB w0.heap.size (.slice none 0 0) 0 false 0 ((((W.setCell ⟨w0.heap.size,0,none⟩ (.slice none 0 0)).setCell ⟨w0.heap.size,1,none⟩ (.int .u64 0)).setCell ⟨w0.heap.size,2,none⟩ (.bool false)).setCell ⟨w0.heap.size,3,none⟩ (.int .i64 0))∧
 Below w0.heap.size w0 ((((W.setCell ⟨w0.heap.size,0,none⟩ (.slice none 0 0)).setCell ⟨w0.heap.size,1,none⟩ (.int .u64 0)).setCell ⟨w0.heap.size,2,none⟩ (.bool false)).setCell ⟨w0.heap.size,3,none⟩ (.int .i64 0)):=
 ⟨((((h.1.set0 _).set1 _).set2 _).set3 _),(((h.2.2.setCell (p:=⟨w0.heap.size,0,none⟩) (Nat.le_refl _) _).setCell (p:=⟨w0.heap.size,1,none⟩) (Nat.le_refl _) _).setCell (p:=⟨w0.heap.size,2,none⟩) (Nat.le_refl _) _).setCell (p:=⟨w0.heap.size,3,none⟩) (Nat.le_refl _) _⟩
theorem qg6 (l:List UInt8) (h: ¬65536<l.length):qay l=(if qan 58 (nm 58 (tb l))=true then
 (if ((tb (nr 58 (tb l))).head?==some 123)=true then
   (if (qcj (tb (nr 58 (tb l))).tail).1=0 then qcL ((qag,nm 58 (tb l))::(qcj (tb (nr 58 (tb l))).tail).2.1) (tb (qcj (tb (nr 58 (tb l))).tail).2.2) else ((qcj (tb (nr 58 (tb l))).tail).1,qbj))
  else qcL [(qag,nm 58 (tb l))] (tb (tb (nr 58 (tb l)))))
 else (230,qbj)):=by unfold qay;rw[if_neg h]
theorem qbb {w w':World} {base n D:Nat} {v lv:Value} {b t:Int} {st:Bool} {xs:List Value} (h:w.ownsRow base 44 2 v n xs) (hb:Only D w w') (hD:SB D lv b st t w):w'.ownsRow base 44 2 v n xs:=by
 refine⟨h.1,?_⟩;rcases h.2 with h'|⟨g,cap,cur,h1,h2,h3,h4⟩
 ·exact .inl h'
 ·refine .inr ⟨g,cap,cur,h1,h2,(hb.block g (Array.getElem?_eq_some_iff.1 h3).1 (fun e=>?_)).trans h3,h4⟩;subst e;unfold SB at hD;rw[h3] at hD;simp at hD
theorem qeT {w:World} {base n D:Nat} {v:Value} {xs:List Value} (h:w.ownsRow base 44 2 v n xs) (hD:D<base): ∀w',Only D w w'→w'.ownsRow base 44 2 v n xs:=fun w' hb=>qam h hb hD
theorem qbM {l:List UInt8} {w W:World} {code:Int} (hF:qay l=(code,qbj)) (hB:Below w.heap.size w W):qmt l w (.returned (.tuple #[.agg #[.slice none 0 0,.int .u64 0,.bool false,.int .i64 0],.int .i64 code])) W:=
 ⟨_,by rw[hF],by rw[hF];exact qs3 _ _,hB⟩
theorem qhQ {w0 W:World} {l:List UInt8} (h:RdI w0 l W) (lv:Value) (b:Int) (st:Bool) (t:Int):SB w0.heap.size lv b st t ((((W.setCell ⟨w0.heap.size,0,none⟩ lv).setCell ⟨w0.heap.size,1,none⟩ (.int .u64 b)).setCell ⟨w0.heap.size,2,none⟩ (.bool st)).setCell ⟨w0.heap.size,3,none⟩ (.int .i64 t))∧
 Below w0.heap.size w0 ((((W.setCell ⟨w0.heap.size,0,none⟩ lv).setCell ⟨w0.heap.size,1,none⟩ (.int .u64 b)).setCell ⟨w0.heap.size,2,none⟩ (.bool st)).setCell ⟨w0.heap.size,3,none⟩ (.int .i64 t)):=
 ⟨((((h.1.set0 _).set1 _).set2 _).set3 _),(((h.2.2.setCell (p:=⟨w0.heap.size,0,none⟩) (Nat.le_refl _) _).setCell (p:=⟨w0.heap.size,1,none⟩) (Nat.le_refl _) _).setCell (p:=⟨w0.heap.size,2,none⟩) (Nat.le_refl _) _).setCell (p:=⟨w0.heap.size,3,none⟩) (Nat.le_refl _) _⟩
theorem qeX {w0 W:World} {l:List UInt8} {base n:Nat} {v:Value} {xs:List Value} (h:RdI w0 l W) (ho:W.ownsRow base 44 2 v n xs) (lv:Value) (b:Int) (st:Bool) (t:Int) (hb:w0.heap.size≤base):
 ((((W.setCell ⟨w0.heap.size,0,none⟩ lv).setCell ⟨w0.heap.size,1,none⟩ (.int .u64 b)).setCell ⟨w0.heap.size,2,none⟩ (.bool st)).setCell ⟨w0.heap.size,3,none⟩ (.int .i64 t)).ownsRow w0.heap.size 44 2 v n xs:=
 qaQ (qbb ho (((qai W w0.heap.size 0 lv).trans (qai _ w0.heap.size 1 (.int .u64 b))).trans ((qai _ w0.heap.size 2 (.bool st)).trans (qai _ w0.heap.size 3 (.int .i64 t)))) h.1) hb
theorem qrq {W:World} {base D n k e:Nat} {c:Nat} {xs:List Value} (h:W.ownsRow base e k (.slice (some ⟨D,0,none⟩) n c) n xs):D≤W.heap.size:=by
 rcases h.2 with ⟨h1,_⟩|⟨g,cap,cur,h1,h2,h3,_⟩
 ·cases h1
 ·have:=(Array.getElem?_eq_some_iff.1 h3).1;simp only[Value.slice.injEq,Option.some.injEq,Addr.mk.injEq] at h1;omega
theorem row_one (W:World) (n:List UInt8):(W.alloc (.cells #[.string (BS qag),.string (BS n)] 44)).ownsRow W.heap.size 44 2 (.slice (some ⟨W.heap.size,0,none⟩) 1 1) [(qag,n)].length (qaa [(qag,n)]):=
 ⟨rfl,.inr ⟨W.heap.size,1,#[.string (BS qag),.string (BS n)],rfl,Nat.le_refl _,World.alloc_heap_new _ _,Nat.le_refl _,by decide,rfl,rfl⟩⟩
theorem qpY {w0 W:World} (h:SB w0.heap.size (.slice none 0 0) 0 false 0 W) (hb:Below w0.heap.size w0 W):SB w0.heap.size (.slice none 0 0) 0 false 0 ((((W.setCell ⟨w0.heap.size,0,none⟩ (.slice none 0 0)).setCell ⟨w0.heap.size,1,none⟩ (.int .u64 0)).setCell ⟨w0.heap.size,2,none⟩ (.bool false)).setCell ⟨w0.heap.size,3,none⟩ (.int .i64 0))∧
 Below w0.heap.size w0 ((((W.setCell ⟨w0.heap.size,0,none⟩ (.slice none 0 0)).setCell ⟨w0.heap.size,1,none⟩ (.int .u64 0)).setCell ⟨w0.heap.size,2,none⟩ (.bool false)).setCell ⟨w0.heap.size,3,none⟩ (.int .i64 0)):=
 ⟨((((h.set0 _).set1 _).set2 _).set3 _),(((hb.setCell (p:=⟨w0.heap.size,0,none⟩) (Nat.le_refl _) _).setCell (p:=⟨w0.heap.size,1,none⟩) (Nat.le_refl _) _).setCell (p:=⟨w0.heap.size,2,none⟩) (Nat.le_refl _) _).setCell (p:=⟨w0.heap.size,3,none⟩) (Nat.le_refl _) _⟩
theorem RdI.low {w0 W W':World} {l:List UInt8} {B:Nat} (h:RdI w0 l W) (hb:Below B W W') (hB:w0.heap.size+1<B):RdI w0 l W':=
 ⟨(hb.block _ (by omega)).trans h.1,(hb.block _ hB).trans h.2.1,h.2.2.trans (hb.mono (by omega))⟩
theorem qnu {ops:Array Oper} {rest:List Oper} {o:Oper} {a:Act} {Q:Exit→Act→World→Prop} {w:World} (hgd:o.guard=none) (s x:Operand) (t:TypeId)
 (ho:o.op= .call {callee:= .builtin .append,args:=#[s,x],argTypes:=#[t,t]}) (ht:Tryz.prog.underlying t=some (.slice 44)) (base base2:Nat) (v vm:Value) (ls ms:List Lb) (hs:a.eval s=v) (hx:a.eval x=vm)
 (hown:w.ownsRow base 44 2 v ls.length (qaa ls)) (hm:w.ownsRow base2 44 2 vm ms.length (qaa ms)) (hb1:ls.length+ms.length≤1000000) (hbase:base≤w.heap.size)
 (h: ∀v' w',w'.ownsRow base 44 2 v' (ls++ms).length (qaa (ls++ms))→Below base w w'→(∀row,v.ownBlock≠some row→row<w.heap.size→w'.heap[row]?=w.heap[row]?)→wpList Tryz.prog ops Q rest (a.put o.dst v') w'):
 wpList Tryz.prog ops Q (o::rest) a w:=by
 obtain⟨i,hi,hz0,hz1,hz2⟩:=info_parts qcJ;rcases hm.2 with ⟨rfl,h0⟩|⟨g,cap,cur,rfl,hbg,h3,h4,h5,h6,h7⟩
 ·have hms:ms=[]:=List.eq_nil_of_length_eq_zero h0;subst hms;refine wpList_append_own_none hgd s x t ho base 44 i 2 ht hi v ls.length (qaa ls) hs hown hx ?_;refine h v w ?_ (Below.refl _ _) (fun _ _ _=>rfl);rw[List.append_nil];exact hown
 ·have hll:=qaw ms;refine wpList_append_own _ hgd s x t ho base 44 i _ 2 32 ht hi hz0 hz1 hz2 rfl (by decide) v ls.length (qaa ls) hs hown ⟨g,0,none⟩ ms.length cap (qaa ms) hx hll ?_ (qeu ms) (by unfold maxLen;omega) (by omega) hbase ?_
  ·intro j u hj;have hj2:j<ms.length*2:=by rw[←hll];exact(List.getElem?_eq_some_iff.1 hj).1
   rw[show(⟨g,0,none⟩:Addr).add j=⟨g,j,none⟩ by simp[Addr.add];omega,Lib.cell_of_heap h3];have:(cur.toList.take (ms.length*2))[j]?=(qaa ms)[j]?:=by rw[h7]
   rw[List.getElem?_take_of_lt hj2] at this;rw[←Array.getElem?_toList,this,hj]
  ·intro v' w' hown' hg hnil;refine h v' w' ?_ ?_ ?_
   ·rw[List.length_append,qb9];exact hown'
   ·exact(Below.refl base w).grown hg hbase (fun k e'=>(hown.lt k e').1)
   ·intro row hrow hlt;exact hg.block row hlt (fun e'=>hrow e'.symm)
theorem qkj: ∀(f:Nat) (l:List UInt8) (out o:List Lb) (r:List UInt8),qgc f l out=(0,o,r)→r.length≤l.length∧o.length≤out.length+l.length∧ ∀x∈o,x∈out∨(qan 95 x.1=true∧qbi x.2=true)
 |0,l,out,o,r,h=>by cases h
 |f+1,l,out,o,r,h=>by
  rw[qgc] at h
  split at h
  ·cases h;exact⟨by rw[List.length_tail];omega,by omega,fun x hx=> .inl hx⟩
  ·split at h
   ·rename_i hc
    rw[Bool.and_eq_true] at hc;have h0:=qdS hc.1;have h1:=qoQ 95 l;have h2:=qbg (nr 95 l);have h3:=qbg (tb (nr 95 l)).tail;rw[List.length_tail] at h3
    cases hq:quo (tb (tb (nr 95 l)).tail)with
    |none=>rw[hq] at h;cases h
    |some vr=>
     obtain⟨v,u⟩:=vr;have q2:=qhA hq
     have q3:qbi v=true:=by
      unfold quo at hq
      split at hq
      ·rename_i g;cases hq;exact g.2
      ·cases hq
     rw[hq] at h;simp only at h;have h4:=qbg u
     have key: ∀l',qgc f l' (out++[(nm 95 l,v)])=(0,o,r)→l'.length+1≤l.length→r.length≤l.length∧o.length≤out.length+l.length∧ ∀x∈o,x∈out∨(qan 95 x.1=true∧qbi x.2=true):=fun l' h' hl'=>by
      obtain⟨i1,i2,i3⟩:=qkj f _ _ _ _ h';rw[List.length_append,List.length_singleton] at i2;refine⟨by omega,by omega,fun x hx=>?_⟩;rcases i3 x hx with g|g
      ·rw[List.mem_append,List.mem_singleton] at g;rcases g with g|rfl
       ·exact .inl g
       ·exact .inr ⟨hc.1,q3⟩
      ·exact .inr g
     split at h
     ·cases h
     ·split at h
      ·have h5:=qbg (tb u).tail;rw[List.length_tail] at h5;exact key _ h (by omega)
      ·split at h
       ·exact key _ h (by omega)
       ·cases h
   ·cases h
theorem qqo {l:List UInt8} (h:(qcj l).1=0):(qcj l).2.2.length≤l.length∧(qcj l).2.1.length≤l.length+1∧ ∀x∈(qcj l).2.1,x.1.length≤128∧x.2.length≤1024:=by
 have:=qkj (l.length+1) (tb l) [] (qcj l).2.1 (qcj l).2.2 (by rw[←h];rfl);have h2:=qbg l;refine⟨by omega,by simp at this;omega,fun x hx=>?_⟩;rcases this.2.2 x hx with g|⟨g1,g2⟩
 ·cases g
 ·unfold qan at g1;unfold qbi at g2;simp only[Bool.and_eq_true,decide_eq_true_eq] at g1 g2;exact⟨g1.1.2,g2.1⟩
theorem qcU (l:List UInt8) (hl:l.length≤1000000000) (hp:l.length≤65536→qqm (qdH l)) (w:World) (hG:EGlb w):Calls Tryz.prog 27 #[.string (BS l)] w (qmt l w):=by
 have hz:=qac l;have hGh:=Lh hG;clear hG
 by_cases h1:65536<l.length
 ·have hF:Hid (qay l=(3,qbj)):=Lh (by unfold qay;rw[if_pos h1]);have u1:decide ((65536:Int)<((BS l).size:Int))=true:=dT (by omega);have NB:SB w.heap.size (.slice none 0 0) 0 false 0 (w.alloc (.cells #[.slice none 0 0,.int .u64 0,.bool false,.int .i64 0] 34)):=World.alloc_heap_new w _;have hS:=Lh NB;have hB:Hid (Below w.heap.size w (w.alloc (.cells #[.slice none 0 0,.int .u64 0,.bool false,.int .i64 0] 34))):=Lh ((Below.refl w.heap.size w).alloc (Nat.le_refl _) _);clear NB hp;go_enter Tryz.func27,Tryz.ntmps27;go_wp2_with fail;refine bodyPost_ret (qaq rfl _ _ _ _ _ _ _ rfl hS.out) rfl ?_;exact qbM hF.out hB.out
 ·have u1:decide ((65536:Int)<((BS l).size:Int))=false:=dF (by omega);have hpp:=hp (by omega);have hR:=qg6 l h1;unfold qdH at hpp;have I0:=Lh (RdI.start w l);have hla:=qbg l;clear hp;obtain⟨a,ha⟩: ∃a,tb l=a:=⟨_,rfl⟩;rw[ha] at hR hpp hla;go_enter Tryz.func27,Tryz.ntmps27;go_wp2_with fail;generalize (w.alloc (.cells #[.slice none 0 0,.int .u64 0,.bool false,.int .i64 0] 34)).alloc (.cells #[.string (BS l)] 119)=w1 at I0⊢;refine(qao (w.heap.size+1) l _ I0.out.2.1).mono ?_;rintro e w2 ⟨rfl,H,O⟩;have I2:=Lh (I0.out.step H O);rw[ha] at I2;clear H O I0 ha;have cn:=qkX (w.heap.size+1) 58 a (by omega) w2 I2.out.2.1;have hnl:=qoQ 58 a;obtain⟨n,hn⟩: ∃n,nm 58 a=n:=⟨_,rfl⟩;obtain⟨b0,hb0⟩: ∃b,nr 58 a=b:=⟨_,rfl⟩;rw[hn,hb0] at cn hnl hR;rw[hb0] at hpp;replace cn:=Lh cn;clear hn hb0;go_wp2_with fail;refine cn.out.mono ?_;rintro e w3 ⟨rfl,H,O⟩;have I3:=Lh (I2.out.step H O);clear H O I2 cn;have own3:Hid ((w3.alloc (.cells #[.string ⟨#[95,95,110,97,109,101,95,95]⟩,.string (BS n)] 44)).ownsRow w3.heap.size 44 2 (.slice (some ⟨w3.heap.size,0,none⟩) 1 1) [(qag,n)].length (qaa [(qag,n)])):=Lh (row_one w3 n);have Ba:Below w3.heap.size w3 (w3.alloc (.cells #[.string ⟨#[95,95,110,97,109,101,95,95]⟩,.string (BS n)] 44)):=(Below.refl _ _).alloc (Nat.le_refl _) _;have I4:=Lh (I3.out.on Ba);have q1:(w3.alloc (.cells #[.string ⟨#[95,95,110,97,109,101,95,95]⟩,.string (BS n)] 44)).cell? ⟨w3.heap.size,1,none⟩=some (.string (BS n)):=by rw[Lib.cell_of_heap (World.alloc_heap_new w3 _)];rfl
  have hD2:w.heap.size+1<w3.heap.size:=I3.out.2.1.lt;have cm:=fun W=>qch (BS n) (by rw[qac];omega) W
  rw[show(BS n).data.toList=n by simp[BS]] at cm;go_wp2_with fail;generalize w3.alloc (.cells #[.string ⟨#[95,95,110,97,109,101,95,95]⟩,.string (BS n)] 44)=w4 at own3 I4 q1⊢;generalize w3.heap.size=D2 at own3 q1 hD2⊢;clear I3 Ba
  cases hnm:qan 58 n with
  |false=>
   rw[hnm] at cm;rw[if_neg (by rw[hnm];decide)] at hR;replace hR:=Lh hR;replace cm:=Lh cm;clear hnm hpp;go_wp2_with fail;refine(cm.out _).mono ?_;rintro e w5 ⟨rfl,rfl⟩;have hF:Hid (qay l=(230,qbj)):=Lh (hR.out);have hzr:=Lh I4.out.zero;have z0:=I4.out.1.c0;have z1:=I4.out.1.c1;have z2:=I4.out.1.c2;have z3:=I4.out.1.c3;have y0:=I4.out.1.fz 0;have y1:=I4.out.1.fz 1;have y2:=I4.out.1.fz 2;have y3:=I4.out.1.fz 3;clear hR I4;go_wp2_with fail;refine bodyPost_ret (qaq rfl _ _ _ _ _ _ _ rfl hzr.out.1) rfl ?_;exact qbM hF.out hzr.out.2
  |true=>
   rw[hnm] at cm;rw[if_pos hnm] at hR;replace cm:=Lh cm;have hnp:=qdS hnm;have hn128:n.length≤128:=(by unfold qan at hnm;simp at hnm;exact hnm.1.2);clear hnm;go_wp2_with fail;refine(cm.out _).mono ?_;rintro e w5 ⟨rfl,rfl⟩;clear cm q1;go_wp2_with fail;refine(qao (w.heap.size+1) b0 _ I4.out.2.1).mono ?_;rintro e w6 ⟨rfl,H,O⟩;have I6:=Lh (I4.out.step H O);have own6:=Lh (qam own3.out O (by omega));clear H O I4 own3;have hlb:=qbg b0;obtain⟨b,hb⟩: ∃b,tb b0=b:=⟨_,rfl⟩;rw[hb] at I6 hR hpp hlb;clear hb;have cb:=qcQ (w.heap.size+1) 123 b _ I6.out.2.1
   cases hh:(b.head?==some 123)with
   |false=>
    rw[hh] at cb hR hpp;rw[if_neg (by decide)] at cb hR hpp;replace cb:=Lh cb;replace hR:=Lh hR;clear hh;go_wp2_with fail;refine cb.out.mono ?_;rintro e w7 ⟨rfl,H,O⟩;have I7:=Lh (I6.out.step H O);have own7:=Lh (qam own6.out O (by omega));clear H O I6 own6 cb;have hal1:[(qag,n)].length≤1000000:=by simp
    have hal2: ∀x∈[(qag,n)],x.1.length≤1000000000∧x.2.length≤1000000000:=fun x hx=>by
     rw[List.mem_singleton] at hx;subst hx;exact⟨by show qag.length≤_;decide,by show n.length≤_;omega⟩
    go_wp2_with fail;refine(qao (w.heap.size+1) b _ I7.out.2.1).mono ?_;rintro e x1 ⟨rfl,H,O⟩;have J1:=Lh (I7.out.step H O);have own1:=Lh (qam own7.out O (by omega));clear H O I7 own7;have hlc:=qbg b;obtain⟨c,hc⟩: ∃c,tb b=c:=⟨_,rfl⟩;rw[hc] at J1 hR hlc hpp;have hGc:=Lh (hGh.out.on J1.out.2.2);clear hc;have NB:Hid (SB x1.heap.size (.slice none 0 0) 0 false 0 (x1.alloc (.cells #[.slice none 0 0,.int .u64 0,.bool false,.int .i64 0] 34))):=Lh (World.alloc_heap_new x1 _);have Ba:Below x1.heap.size x1 (x1.alloc (.cells #[.slice none 0 0,.int .u64 0,.bool false,.int .i64 0] 34)):=(Below.refl _ _).alloc (Nat.le_refl _) _;have J2:=Lh (J1.out.on Ba);have own2:=Lh (qah own1.out Ba);have hD8:w.heap.size+1<x1.heap.size:=J1.out.2.1.lt;have hwlen:(wd c).length≤65536:=Nat.le_trans (by have:=(qbc nb c).2.2;exact this) (by omega);go_wp2_with fail;clear J1 own1 Ba;generalize x1.alloc (.cells #[.slice none 0 0,.int .u64 0,.bool false,.int .i64 0] 34)=x2 at NB J2 own2⊢;generalize x1.heap.size=D8 at NB hD8⊢;refine(qbO (w.heap.size+1) c (by omega) _ J2.out.2.1).mono ?_;rintro e x3 ⟨rfl,H,O⟩;have J3:=Lh (J2.out.step H O);have own3:=Lh (qam own2.out O (by omega));have NB3:=Lh (NB.out.only O (by omega));clear H O J2 own2 NB;have hwr:=qgB c;have cp:=hpp x3 (hGh.out.on J3.out.2.2);have hRv:=hR.out;rw[qcL] at hRv;obtain⟨wdc,hwd⟩: ∃u,wd c=u:=⟨_,rfl⟩;obtain⟨wrc,hwrc⟩: ∃u,wr c=u:=⟨_,rfl⟩;rw[hwd] at cp hRv;rw[hwrc] at hRv J3 hwr;rw[hwd];clear hwd hwrc hR hpp;replace cp:=Lh cp;go_wp2_with fail;refine cp.out.mono ?_;rintro e x4 ⟨bv,er,rfl,hbv,B4⟩;have J4:=Lh (J3.out.on B4);have own4:=Lh (qah own3.out B4);have NB4:=Lh (NB3.out.on B4);clear B4 J3 own3 NB3 cp;rcases hbv with ⟨rfl,hpa⟩|⟨hne,hpa⟩
    case inr=>
     have u5:(er !=0)=true:=by simpa using hne
     rw[hpa] at hRv;have hR:=Lh hRv;clear hRv hpa hne;have hF:Hid (qay l=(233,qbj)):=Lh (hR.out);have hzr:=Lh J4.out.zero;have z0:=J4.out.1.c0;have z1:=J4.out.1.c1;have z2:=J4.out.1.c2;have z3:=J4.out.1.c3;have y0:=J4.out.1.fz 0;have y1:=J4.out.1.fz 1;have y2:=J4.out.1.fz 2;have y3:=J4.out.1.fz 3;clear hR J4;go_wp2_with fail;refine bodyPost_ret (qaq rfl _ _ _ _ _ _ _ rfl hzr.out.1) rfl ?_;exact qbM hF.out hzr.out.2
    case inl=>
     rw[hpa] at hRv;replace hRv:=Lh (show qay l=qdC [(qag,n)] bv (tb wrc)from hRv);clear hpa;go_wp2_with fail;refine(qao (w.heap.size+1) wrc _ J4.out.2.1).mono ?_;rintro e x5 ⟨rfl,H,O⟩;have J5:=Lh (J4.out.step H O);have own5:=Lh (qam own4.out O (by omega));have NB5:=Lh (NB4.out.only O (by omega));clear H O J4 own4 NB4;have hld:=qbg wrc;obtain⟨d,hd⟩: ∃d,tb wrc=d:=⟨_,rfl⟩;rw[hd] at J5 hRv hld;clear hd;have k5:=J5.out.2.1.cell
     by_cases hd0:d=[]
     case pos=>
      subst hd0;have e5:(BS ([]:List UInt8)).toList.isEmpty=true:=by rw[qad];rfl
      rw[qdC,if_pos rfl] at hRv;obtain⟨st,hst⟩: ∃st:Bool,st=false:=⟨_,rfl⟩;obtain⟨tv,htv⟩: ∃tv:Int,tv=0:=⟨_,rfl⟩;rw[←hst,←htv] at NB5 hRv;replace hst:=Lh hst;replace htv:=Lh htv;go_wp2_with fail;refine(qao (w.heap.size+1) [] _ J5.out.2.1).mono ?_;rintro e x7 ⟨rfl,H,O⟩;have J7:=Lh (J5.out.step H O);have own7:=Lh (qam own5.out O (by omega));have NB7:=Lh (NB5.out.only O (by omega));clear H O J5 own5 NB5;rw[show tb []=[] from rfl] at J7;have k7:=J7.out.2.1.cell;have hRv2:=Lh hRv;clear hRv;have s1:=NB7.out.c1;have f1:=NB7.out.fz 1;have N9b:=Lh (NB7.out.set1 (bv:Int));have J9b:=Lh (J7.out.other (qai x7 D8 1 (.int .u64 (bv:Int))) hD8);have own9b:=Lh (qbb own7.out (qai x7 D8 1 (.int .u64 (bv:Int))) NB7.out);clear J7 own7 NB7;go_wp2_with fail;generalize x7.setCell ⟨D8,1,none⟩ (.int .u64 (bv:Int))=xa at N9b J9b own9b⊢;clear s1 f1 k7;refine(qlt (.slice (some ⟨D2,0,none⟩) 1 1) [(qag,n)] hal1 hal2 xa (qaN.of_owned own9b.out) (.inl (by simp))).mono ?_;rintro e xb ⟨lv,rfl,ownb,Bb⟩
      have hshp: ∃a n c,lv= .slice a n c:=by
       obtain⟨a,c,h⟩:=qae ownb;exact⟨a,_,c,h⟩
      obtain⟨lva,ln,lvc,rfl⟩:=hshp;have Jb:=Lh (J9b.out.on Bb);have Nb:=Lh (N9b.out.on Bb);have ownbh:=Lh ownb;have hszb:w.heap.size≤xa.heap.size:=J9b.out.2.2.size;have ownE:=Lh (qeT ownb (by have:=N9b.out.lt;omega:D8<xa.heap.size));clear Bb J9b N9b own9b ownb;have s0:=Nb.out.c0;have f0:=Nb.out.fz 0;have Nc:=Lh (Nb.out.set0 (.slice lva ln lvc));have Oc:=qai xb D8 0 (.slice lva ln lvc);have Jc:=Lh (Jb.out.other Oc hD8);have ownc:=Lh (ownE.out (xb.setCell ⟨D8,0,none⟩ (.slice lva ln lvc)) Oc);obtain⟨ra,hra⟩: ∃ra,ofF [(qag,n)]=ra:=⟨_,rfl⟩;obtain⟨oe,ols⟩:=ra;have hRv3:=hRv2.out;rw[qfr,hra] at hRv3;rw[hra] at ownc ownbh;rw[hra];simp only at hRv3 ownc⊢;clear Oc Jb hra ownE ownbh hRv2
      by_cases ho:oe=0
      case neg=>
       have u9:(oe !=0)=true:=by simpa using ho
       rw[if_neg ho] at hRv3;have hR:=Lh hRv3;clear hRv3 ho ownc Nb;have hF:Hid (qay l=(oe,qbj)):=Lh (hR.out);have hzr:=Lh Jc.out.zero;have z0:=Jc.out.1.c0;have z1:=Jc.out.1.c1;have z2:=Jc.out.1.c2;have z3:=Jc.out.1.c3;have y0:=Jc.out.1.fz 0;have y1:=Jc.out.1.fz 1;have y2:=Jc.out.1.fz 2;have y3:=Jc.out.1.fz 3;clear hR Jc;go_wp2_with fail;refine bodyPost_ret (qaq rfl _ _ _ _ _ _ _ rfl hzr.out.1) rfl ?_;exact qbM hF.out hzr.out.2
      case pos=>
       subst ho;rw[if_pos rfl] at hRv3;have hR:=Lh hRv3;clear hRv3 Nb;have z0:=Jc.out.1.c0;have z1:=Jc.out.1.c1;have z2:=Jc.out.1.c2;have z3:=Jc.out.1.c3;have y0:=Jc.out.1.fz 0;have y1:=Jc.out.1.fz 1;have y2:=Jc.out.1.fz 2;have y3:=Jc.out.1.fz 3;have t0:=Nc.out.c0;have t1:=Nc.out.c1;have t2:=Nc.out.c2;have t3:=Nc.out.c3;have hst2:=qhQ Jc.out (.slice lva ln lvc) (bv:Int) st tv;have own_f:=qeX Jc.out ownc.out (.slice lva ln lvc) (bv:Int) st tv hszb;replace hst2:=Lh hst2;replace own_f:=Lh own_f;clear Jc Nc ownc;go_wp2_with fail;refine bodyPost_ret (qaq rfl _ _ _ _ _ _ _ rfl hst2.out.1) rfl ?_;exact⟨_,by rw[hR.out];rfl,by rw[hR.out];exact⟨.slice lva ln lvc,rfl,own_f.out⟩,hst2.out.2⟩
     case neg=>
      rw[qdC,if_neg hd0] at hRv;have e5:(BS d).toList.isEmpty=false:=by rw[qad];simpa using hd0
      have hwd2:=qgB d;have hwl:(wd d).length≤65536:=Nat.le_trans (by have:=(qbc nb d).2.2;exact this) (by omega);obtain⟨wdd,hwdd⟩: ∃u,wd d=u:=⟨_,rfl⟩;obtain⟨wrd,hwrd⟩: ∃u,wr d=u:=⟨_,rfl⟩;have cw:=qbO (w.heap.size+1) d (by omega) _ J5.out.2.1;rw[hwdd,hwrd] at cw;rw[hwdd,hwrd] at hRv;rw[hwrd] at hwd2;rw[hwdd] at hwl;replace cw:=Lh cw;clear hwdd hwrd;go_wp2_with fail;refine cw.out.mono ?_;rintro e x6 ⟨rfl,H,O⟩;have J6:=Lh (J5.out.step H O);have own6:=Lh (qam own5.out O (by omega));have NB6:=Lh (NB5.out.only O (by omega));clear H O J5 own5 NB5 cw;have cn:=Lh (qgx wdd hwl x6 (hGh.out.on J6.out.2.2));go_wp2_with fail;refine cn.out.mono ?_;rintro e x8 ⟨⟨nv,rfl,hnv⟩,B8⟩;have J8:=Lh (J6.out.on B8);have own8:=Lh (qah own6.out B8);have NB8:=Lh (NB6.out.on B8);clear B8 J6 own6 NB6 cn
      cases hnm:qkW wdd with
      |none=>
       rw[hnm] at hRv;have hR:=Lh hRv;clear hRv hnv hnm;rw[show(none:Option Int).isSome=false from rfl];have hF:Hid (qay l=(234,qbj)):=Lh (hR.out);have hzr:=Lh J8.out.zero;have z0:=J8.out.1.c0;have z1:=J8.out.1.c1;have z2:=J8.out.1.c2;have z3:=J8.out.1.c3;have y0:=J8.out.1.fz 0;have y1:=J8.out.1.fz 1;have y2:=J8.out.1.fz 2;have y3:=J8.out.1.fz 3;clear hR J8;go_wp2_with fail;refine bodyPost_ret (qaq rfl _ _ _ _ _ _ _ rfl hzr.out.1) rfl ?_;exact qbM hF.out hzr.out.2
      |some tv=>
       rw[hnm] at hRv;obtain rfl:=hnv tv hnm;rw[show(some nv).isSome=true from rfl];simp only at hRv;clear hnm hnv;have s2:=NB8.out.c2;have s3:=NB8.out.c3;have f2:=NB8.out.fz 2;have f3:=NB8.out.fz 3;have N9:=Lh ((NB8.out.set2 true).set3 nv);have O9:Only D8 x8 ((x8.setCell ⟨D8,2,none⟩ (.bool true)).setCell ⟨D8,3,none⟩ (.int .i64 nv)):=(qai _ _ _ _).trans (qai _ _ _ _);have J9:=Lh (J8.out.other O9 hD8);have own9:=Lh (qbb own8.out O9 NB8.out);clear O9 J8 own8 NB8;go_wp2_with fail;generalize ((x8.setCell ⟨D8,2,none⟩ (.bool true)).setCell ⟨D8,3,none⟩ (.int .i64 nv))=x9 at N9 J9 own9⊢;refine(qao (w.heap.size+1) wrd _ J9.out.2.1).mono ?_;rintro e x7 ⟨rfl,H,O⟩;have J7:=Lh (J9.out.step H O);have own7:=Lh (qam own9.out O (by omega));have NB7:=Lh (N9.out.only O (by omega));clear H O J9 own9 N9 s2 s3 f2 f3;obtain⟨q,hq⟩: ∃q,tb wrd=q:=⟨_,rfl⟩;rw[hq] at J7 hRv;clear hq;have k7:=J7.out.2.1.cell
       by_cases hq0:q=[]
       case neg=>
        have e7:(BS q).toList.isEmpty=false:=by rw[qad];simpa using hq0
        rw[if_neg hq0] at hRv;have hR:=Lh hRv;clear hRv hq0;have hF:Hid (qay l=(235,qbj)):=Lh (hR.out);have hzr:=Lh J7.out.zero;have z0:=J7.out.1.c0;have z1:=J7.out.1.c1;have z2:=J7.out.1.c2;have z3:=J7.out.1.c3;have y0:=J7.out.1.fz 0;have y1:=J7.out.1.fz 1;have y2:=J7.out.1.fz 2;have y3:=J7.out.1.fz 3;clear hR J7;go_wp2_with fail;refine bodyPost_ret (qaq rfl _ _ _ _ _ _ _ rfl hzr.out.1) rfl ?_;exact qbM hF.out hzr.out.2
       case pos=>
        subst hq0;rw[if_pos rfl] at hRv;obtain⟨st,hst⟩: ∃st:Bool,st=true:=⟨_,rfl⟩;rw[←hst] at NB7 hRv;replace hst:=Lh hst;replace hRv:=Lh hRv;obtain⟨tv,htv⟩: ∃tv:Int,tv=nv:=⟨_,rfl⟩;rw[←htv] at NB7 hRv;replace htv:=Lh htv;replace hRv:=hRv.out;have e5:(BS ([]:List UInt8)).toList.isEmpty=true:=by rw[qad];rfl
        have hRv2:=Lh hRv;clear hRv;have s1:=NB7.out.c1;have f1:=NB7.out.fz 1;have N9b:=Lh (NB7.out.set1 (bv:Int));have J9b:=Lh (J7.out.other (qai x7 D8 1 (.int .u64 (bv:Int))) hD8);have own9b:=Lh (qbb own7.out (qai x7 D8 1 (.int .u64 (bv:Int))) NB7.out);clear J7 own7 NB7;go_wp2_with fail;generalize x7.setCell ⟨D8,1,none⟩ (.int .u64 (bv:Int))=xa at N9b J9b own9b⊢;clear s1 f1 k7;refine(qlt (.slice (some ⟨D2,0,none⟩) 1 1) [(qag,n)] hal1 hal2 xa (qaN.of_owned own9b.out) (.inl (by simp))).mono ?_;rintro e xb ⟨lv,rfl,ownb,Bb⟩
        have hshp: ∃a n c,lv= .slice a n c:=by
         obtain⟨a,c,h⟩:=qae ownb;exact⟨a,_,c,h⟩
        obtain⟨lva,ln,lvc,rfl⟩:=hshp;have Jb:=Lh (J9b.out.on Bb);have Nb:=Lh (N9b.out.on Bb);have ownbh:=Lh ownb;have hszb:w.heap.size≤xa.heap.size:=J9b.out.2.2.size;have ownE:=Lh (qeT ownb (by have:=N9b.out.lt;omega:D8<xa.heap.size));clear Bb J9b N9b own9b ownb;have s0:=Nb.out.c0;have f0:=Nb.out.fz 0;have Nc:=Lh (Nb.out.set0 (.slice lva ln lvc));have Oc:=qai xb D8 0 (.slice lva ln lvc);have Jc:=Lh (Jb.out.other Oc hD8);have ownc:=Lh (ownE.out (xb.setCell ⟨D8,0,none⟩ (.slice lva ln lvc)) Oc);obtain⟨ra,hra⟩: ∃ra,ofF [(qag,n)]=ra:=⟨_,rfl⟩;obtain⟨oe,ols⟩:=ra;have hRv3:=hRv2.out;rw[qfr,hra] at hRv3;rw[hra] at ownc ownbh;rw[hra];simp only at hRv3 ownc⊢;clear Oc Jb hra ownE ownbh hRv2
        by_cases ho:oe=0
        case neg=>
         have u9:(oe !=0)=true:=by simpa using ho
         rw[if_neg ho] at hRv3;have hR:=Lh hRv3;clear hRv3 ho ownc Nb;have hF:Hid (qay l=(oe,qbj)):=Lh (hR.out);have hzr:=Lh Jc.out.zero;have z0:=Jc.out.1.c0;have z1:=Jc.out.1.c1;have z2:=Jc.out.1.c2;have z3:=Jc.out.1.c3;have y0:=Jc.out.1.fz 0;have y1:=Jc.out.1.fz 1;have y2:=Jc.out.1.fz 2;have y3:=Jc.out.1.fz 3;clear hR Jc;go_wp2_with fail;refine bodyPost_ret (qaq rfl _ _ _ _ _ _ _ rfl hzr.out.1) rfl ?_;exact qbM hF.out hzr.out.2
        case pos=>
         subst ho;rw[if_pos rfl] at hRv3;have hR:=Lh hRv3;clear hRv3 Nb;have z0:=Jc.out.1.c0;have z1:=Jc.out.1.c1;have z2:=Jc.out.1.c2;have z3:=Jc.out.1.c3;have y0:=Jc.out.1.fz 0;have y1:=Jc.out.1.fz 1;have y2:=Jc.out.1.fz 2;have y3:=Jc.out.1.fz 3;have t0:=Nc.out.c0;have t1:=Nc.out.c1;have t2:=Nc.out.c2;have t3:=Nc.out.c3;have hst2:=qhQ Jc.out (.slice lva ln lvc) (bv:Int) st tv;have own_f:=qeX Jc.out ownc.out (.slice lva ln lvc) (bv:Int) st tv hszb;replace hst2:=Lh hst2;replace own_f:=Lh own_f;clear Jc Nc ownc;go_wp2_with fail;refine bodyPost_ret (qaq rfl _ _ _ _ _ _ _ rfl hst2.out.1) rfl ?_;exact⟨_,by rw[hR.out];rfl,by rw[hR.out];exact⟨.slice lva ln lvc,rfl,own_f.out⟩,hst2.out.2⟩
   |true=>
    rw[hh] at cb hR hpp;rw[if_pos rfl] at cb hR hpp;replace cb:=Lh cb;have hbl:b.tail.length≤65536:=by rw[List.length_tail];omega
    clear hh;go_wp2_with fail;refine cb.out.mono ?_;rintro e w7 ⟨rfl,H,O⟩;have I7:=Lh (I6.out.step H O);have own7:=Lh (qam own6.out O (by omega));clear H O I6 own6 cb;go_wp2_with fail;refine(qk2 (w.heap.size+1) b.tail hbl _ I7.out.2.1).mono ?_;rintro e w8 ⟨v6,rfl,O,hL⟩;have own8:=Lh (qam own7.out O (by omega));have hLh:=Lh hL;have Oh:=Lh O;clear hL O own7;have hgv:(qcj b.tail).1=0→(qcj b.tail).2.2.length≤b.tail.length∧(qcj b.tail).2.1.length≤b.tail.length+1∧ ∀x∈(qcj b.tail).2.1,x.1.length≤128∧x.2.length≤1024:=fun h=>qqo h
    obtain⟨le,more,r,hg⟩: ∃le more r,qcj b.tail=(le,more,r):=⟨_,_,_,rfl⟩;rw[hg] at hLh hR hpp hgv⊢;simp only at hLh hR hpp hgv⊢;clear hg
    by_cases hle:le=0
    ·subst hle;rw[if_pos rfl] at hR;obtain⟨g1,g2,g3⟩:=hgv rfl;replace hR:=Lh hR;have LI:=hLh.out rfl;have I8:=Lh (I7.out.step LI.1 Oh.out);have ownm:=Lh LI.2.2;have hsz8:D2≤w8.heap.size:=qrq own8.out;clear LI hLh Oh hgv I7;have hal1:((qag,n)::more).length≤1000000:=by simp only[List.length_cons];omega
     have hal2: ∀x∈(qag,n)::more,x.1.length≤1000000000∧x.2.length≤1000000000:=fun x hx=>by
      rcases List.mem_cons.1 hx with rfl|hx
      ·exact⟨by show qag.length≤_;decide,by show n.length≤_;omega⟩
      ·have:=g3 x hx;omega
     go_wp2_with (at_builtin;go_must (refine qnu rfl (.tmp 46) (.tmp 47) 31 rfl (by kernel_rfl) D2 _ _ _ [(qag,n)] more rfl rfl own8.out ownm.out (by simp only[List.length_cons,List.length_nil];omega) hsz8 ?_);rintro v9 w9 hown9 hb9 hk9;have own9:=Lh hown9;have I9:=Lh (I8.out.low hb9 hD2);clear hown9 hb9 hk9 I8 own8 ownm);go_wp2_with fail;refine(qao (w.heap.size+1) r _ I9.out.2.1).mono ?_;rintro e x1 ⟨rfl,H,O⟩;have J1:=Lh (I9.out.step H O);have own1:=Lh (qam own9.out O (by omega));clear H O I9 own9;have hlc:=qbg r;obtain⟨c,hc⟩: ∃c,tb r=c:=⟨_,rfl⟩;rw[hc] at J1 hR hlc hpp;have hGc:=Lh (hGh.out.on J1.out.2.2);clear hc;have NB:Hid (SB x1.heap.size (.slice none 0 0) 0 false 0 (x1.alloc (.cells #[.slice none 0 0,.int .u64 0,.bool false,.int .i64 0] 34))):=Lh (World.alloc_heap_new x1 _);have Ba:Below x1.heap.size x1 (x1.alloc (.cells #[.slice none 0 0,.int .u64 0,.bool false,.int .i64 0] 34)):=(Below.refl _ _).alloc (Nat.le_refl _) _;have J2:=Lh (J1.out.on Ba);have own2:=Lh (qah own1.out Ba);have hD8:w.heap.size+1<x1.heap.size:=J1.out.2.1.lt;have hwlen:(wd c).length≤65536:=Nat.le_trans (by have:=(qbc nb c).2.2;exact this) (by omega);go_wp2_with fail;clear J1 own1 Ba;generalize x1.alloc (.cells #[.slice none 0 0,.int .u64 0,.bool false,.int .i64 0] 34)=x2 at NB J2 own2⊢;generalize x1.heap.size=D8 at NB hD8⊢;refine(qbO (w.heap.size+1) c (by omega) _ J2.out.2.1).mono ?_;rintro e x3 ⟨rfl,H,O⟩;have J3:=Lh (J2.out.step H O);have own3:=Lh (qam own2.out O (by omega));have NB3:=Lh (NB.out.only O (by omega));clear H O J2 own2 NB;have hwr:=qgB c;have cp:=hpp x3 (hGh.out.on J3.out.2.2);have hRv:=hR.out;rw[qcL] at hRv;obtain⟨wdc,hwd⟩: ∃u,wd c=u:=⟨_,rfl⟩;obtain⟨wrc,hwrc⟩: ∃u,wr c=u:=⟨_,rfl⟩;rw[hwd] at cp hRv;rw[hwrc] at hRv J3 hwr;rw[hwd];clear hwd hwrc hR hpp;replace cp:=Lh cp;go_wp2_with fail;refine cp.out.mono ?_;rintro e x4 ⟨bv,er,rfl,hbv,B4⟩;have J4:=Lh (J3.out.on B4);have own4:=Lh (qah own3.out B4);have NB4:=Lh (NB3.out.on B4);clear B4 J3 own3 NB3 cp;rcases hbv with ⟨rfl,hpa⟩|⟨hne,hpa⟩
     case inr=>
      have u5:(er !=0)=true:=by simpa using hne
      rw[hpa] at hRv;have hR:=Lh hRv;clear hRv hpa hne;have hF:Hid (qay l=(233,qbj)):=Lh (hR.out);have hzr:=Lh J4.out.zero;have z0:=J4.out.1.c0;have z1:=J4.out.1.c1;have z2:=J4.out.1.c2;have z3:=J4.out.1.c3;have y0:=J4.out.1.fz 0;have y1:=J4.out.1.fz 1;have y2:=J4.out.1.fz 2;have y3:=J4.out.1.fz 3;clear hR J4;go_wp2_with fail;refine bodyPost_ret (qaq rfl _ _ _ _ _ _ _ rfl hzr.out.1) rfl ?_;exact qbM hF.out hzr.out.2
     case inl=>
      rw[hpa] at hRv;replace hRv:=Lh (show qay l=qdC ((qag,n)::more) bv (tb wrc)from hRv);clear hpa;go_wp2_with fail;refine(qao (w.heap.size+1) wrc _ J4.out.2.1).mono ?_;rintro e x5 ⟨rfl,H,O⟩;have J5:=Lh (J4.out.step H O);have own5:=Lh (qam own4.out O (by omega));have NB5:=Lh (NB4.out.only O (by omega));clear H O J4 own4 NB4;have hld:=qbg wrc;obtain⟨d,hd⟩: ∃d,tb wrc=d:=⟨_,rfl⟩;rw[hd] at J5 hRv hld;clear hd;have k5:=J5.out.2.1.cell
      by_cases hd0:d=[]
      case pos=>
       subst hd0;have e5:(BS ([]:List UInt8)).toList.isEmpty=true:=by rw[qad];rfl
       rw[qdC,if_pos rfl] at hRv;obtain⟨st,hst⟩: ∃st:Bool,st=false:=⟨_,rfl⟩;obtain⟨tv,htv⟩: ∃tv:Int,tv=0:=⟨_,rfl⟩;rw[←hst,←htv] at NB5 hRv;replace hst:=Lh hst;replace htv:=Lh htv;go_wp2_with fail;refine(qao (w.heap.size+1) [] _ J5.out.2.1).mono ?_;rintro e x7 ⟨rfl,H,O⟩;have J7:=Lh (J5.out.step H O);have own7:=Lh (qam own5.out O (by omega));have NB7:=Lh (NB5.out.only O (by omega));clear H O J5 own5 NB5;rw[show tb []=[] from rfl] at J7;have k7:=J7.out.2.1.cell;have hRv2:=Lh hRv;clear hRv;have s1:=NB7.out.c1;have f1:=NB7.out.fz 1;have N9b:=Lh (NB7.out.set1 (bv:Int));have J9b:=Lh (J7.out.other (qai x7 D8 1 (.int .u64 (bv:Int))) hD8);have own9b:=Lh (qbb own7.out (qai x7 D8 1 (.int .u64 (bv:Int))) NB7.out);clear J7 own7 NB7;go_wp2_with fail;generalize x7.setCell ⟨D8,1,none⟩ (.int .u64 (bv:Int))=xa at N9b J9b own9b⊢;clear s1 f1 k7;refine(qlt v9 ((qag,n)::more) hal1 hal2 xa (qaN.of_owned own9b.out) (.inl (by simp))).mono ?_;rintro e xb ⟨lv,rfl,ownb,Bb⟩
       have hshp: ∃a n c,lv= .slice a n c:=by
        obtain⟨a,c,h⟩:=qae ownb;exact⟨a,_,c,h⟩
       obtain⟨lva,ln,lvc,rfl⟩:=hshp;have Jb:=Lh (J9b.out.on Bb);have Nb:=Lh (N9b.out.on Bb);have ownbh:=Lh ownb;have hszb:w.heap.size≤xa.heap.size:=J9b.out.2.2.size;have ownE:=Lh (qeT ownb (by have:=N9b.out.lt;omega:D8<xa.heap.size));clear Bb J9b N9b own9b ownb;have s0:=Nb.out.c0;have f0:=Nb.out.fz 0;have Nc:=Lh (Nb.out.set0 (.slice lva ln lvc));have Oc:=qai xb D8 0 (.slice lva ln lvc);have Jc:=Lh (Jb.out.other Oc hD8);have ownc:=Lh (ownE.out (xb.setCell ⟨D8,0,none⟩ (.slice lva ln lvc)) Oc);obtain⟨ra,hra⟩: ∃ra,ofF ((qag,n)::more)=ra:=⟨_,rfl⟩;obtain⟨oe,ols⟩:=ra;have hRv3:=hRv2.out;rw[qfr,hra] at hRv3;rw[hra] at ownc ownbh;rw[hra];simp only at hRv3 ownc⊢;clear Oc Jb hra ownE ownbh hRv2
       by_cases ho:oe=0
       case neg=>
        have u9:(oe !=0)=true:=by simpa using ho
        rw[if_neg ho] at hRv3;have hR:=Lh hRv3;clear hRv3 ho ownc Nb;have hF:Hid (qay l=(oe,qbj)):=Lh (hR.out);have hzr:=Lh Jc.out.zero;have z0:=Jc.out.1.c0;have z1:=Jc.out.1.c1;have z2:=Jc.out.1.c2;have z3:=Jc.out.1.c3;have y0:=Jc.out.1.fz 0;have y1:=Jc.out.1.fz 1;have y2:=Jc.out.1.fz 2;have y3:=Jc.out.1.fz 3;clear hR Jc;go_wp2_with fail;refine bodyPost_ret (qaq rfl _ _ _ _ _ _ _ rfl hzr.out.1) rfl ?_;exact qbM hF.out hzr.out.2
       case pos=>
        subst ho;rw[if_pos rfl] at hRv3;have hR:=Lh hRv3;clear hRv3 Nb;have z0:=Jc.out.1.c0;have z1:=Jc.out.1.c1;have z2:=Jc.out.1.c2;have z3:=Jc.out.1.c3;have y0:=Jc.out.1.fz 0;have y1:=Jc.out.1.fz 1;have y2:=Jc.out.1.fz 2;have y3:=Jc.out.1.fz 3;have t0:=Nc.out.c0;have t1:=Nc.out.c1;have t2:=Nc.out.c2;have t3:=Nc.out.c3;have hst2:=qhQ Jc.out (.slice lva ln lvc) (bv:Int) st tv;have own_f:=qeX Jc.out ownc.out (.slice lva ln lvc) (bv:Int) st tv hszb;replace hst2:=Lh hst2;replace own_f:=Lh own_f;clear Jc Nc ownc;go_wp2_with fail;refine bodyPost_ret (qaq rfl _ _ _ _ _ _ _ rfl hst2.out.1) rfl ?_;exact⟨_,by rw[hR.out];rfl,by rw[hR.out];exact⟨.slice lva ln lvc,rfl,own_f.out⟩,hst2.out.2⟩
      case neg=>
       rw[qdC,if_neg hd0] at hRv;have e5:(BS d).toList.isEmpty=false:=by rw[qad];simpa using hd0
       have hwd2:=qgB d;have hwl:(wd d).length≤65536:=Nat.le_trans (by have:=(qbc nb d).2.2;exact this) (by omega);obtain⟨wdd,hwdd⟩: ∃u,wd d=u:=⟨_,rfl⟩;obtain⟨wrd,hwrd⟩: ∃u,wr d=u:=⟨_,rfl⟩;have cw:=qbO (w.heap.size+1) d (by omega) _ J5.out.2.1;rw[hwdd,hwrd] at cw;rw[hwdd,hwrd] at hRv;rw[hwrd] at hwd2;rw[hwdd] at hwl;replace cw:=Lh cw;clear hwdd hwrd;go_wp2_with fail;refine cw.out.mono ?_;rintro e x6 ⟨rfl,H,O⟩;have J6:=Lh (J5.out.step H O);have own6:=Lh (qam own5.out O (by omega));have NB6:=Lh (NB5.out.only O (by omega));clear H O J5 own5 NB5 cw;have cn:=Lh (qgx wdd hwl x6 (hGh.out.on J6.out.2.2));go_wp2_with fail;refine cn.out.mono ?_;rintro e x8 ⟨⟨nv,rfl,hnv⟩,B8⟩;have J8:=Lh (J6.out.on B8);have own8:=Lh (qah own6.out B8);have NB8:=Lh (NB6.out.on B8);clear B8 J6 own6 NB6 cn
       cases hnm:qkW wdd with
       |none=>
        rw[hnm] at hRv;have hR:=Lh hRv;clear hRv hnv hnm;rw[show(none:Option Int).isSome=false from rfl];have hF:Hid (qay l=(234,qbj)):=Lh (hR.out);have hzr:=Lh J8.out.zero;have z0:=J8.out.1.c0;have z1:=J8.out.1.c1;have z2:=J8.out.1.c2;have z3:=J8.out.1.c3;have y0:=J8.out.1.fz 0;have y1:=J8.out.1.fz 1;have y2:=J8.out.1.fz 2;have y3:=J8.out.1.fz 3;clear hR J8;go_wp2_with fail;refine bodyPost_ret (qaq rfl _ _ _ _ _ _ _ rfl hzr.out.1) rfl ?_;exact qbM hF.out hzr.out.2
       |some tv=>
        rw[hnm] at hRv;obtain rfl:=hnv tv hnm;rw[show(some nv).isSome=true from rfl];simp only at hRv;clear hnm hnv;have s2:=NB8.out.c2;have s3:=NB8.out.c3;have f2:=NB8.out.fz 2;have f3:=NB8.out.fz 3;have N9:=Lh ((NB8.out.set2 true).set3 nv);have O9:Only D8 x8 ((x8.setCell ⟨D8,2,none⟩ (.bool true)).setCell ⟨D8,3,none⟩ (.int .i64 nv)):=(qai _ _ _ _).trans (qai _ _ _ _);have J9:=Lh (J8.out.other O9 hD8);have own9:=Lh (qbb own8.out O9 NB8.out);clear O9 J8 own8 NB8;go_wp2_with fail;generalize ((x8.setCell ⟨D8,2,none⟩ (.bool true)).setCell ⟨D8,3,none⟩ (.int .i64 nv))=x9 at N9 J9 own9⊢;refine(qao (w.heap.size+1) wrd _ J9.out.2.1).mono ?_;rintro e x7 ⟨rfl,H,O⟩;have J7:=Lh (J9.out.step H O);have own7:=Lh (qam own9.out O (by omega));have NB7:=Lh (N9.out.only O (by omega));clear H O J9 own9 N9 s2 s3 f2 f3;obtain⟨q,hq⟩: ∃q,tb wrd=q:=⟨_,rfl⟩;rw[hq] at J7 hRv;clear hq;have k7:=J7.out.2.1.cell
        by_cases hq0:q=[]
        case neg=>
         have e7:(BS q).toList.isEmpty=false:=by rw[qad];simpa using hq0
         rw[if_neg hq0] at hRv;have hR:=Lh hRv;clear hRv hq0;have hF:Hid (qay l=(235,qbj)):=Lh (hR.out);have hzr:=Lh J7.out.zero;have z0:=J7.out.1.c0;have z1:=J7.out.1.c1;have z2:=J7.out.1.c2;have z3:=J7.out.1.c3;have y0:=J7.out.1.fz 0;have y1:=J7.out.1.fz 1;have y2:=J7.out.1.fz 2;have y3:=J7.out.1.fz 3;clear hR J7;go_wp2_with fail;refine bodyPost_ret (qaq rfl _ _ _ _ _ _ _ rfl hzr.out.1) rfl ?_;exact qbM hF.out hzr.out.2
        case pos=>
         subst hq0;rw[if_pos rfl] at hRv;obtain⟨st,hst⟩: ∃st:Bool,st=true:=⟨_,rfl⟩;rw[←hst] at NB7 hRv;replace hst:=Lh hst;replace hRv:=Lh hRv;obtain⟨tv,htv⟩: ∃tv:Int,tv=nv:=⟨_,rfl⟩;rw[←htv] at NB7 hRv;replace htv:=Lh htv;replace hRv:=hRv.out;have e5:(BS ([]:List UInt8)).toList.isEmpty=true:=by rw[qad];rfl
         have hRv2:=Lh hRv;clear hRv;have s1:=NB7.out.c1;have f1:=NB7.out.fz 1;have N9b:=Lh (NB7.out.set1 (bv:Int));have J9b:=Lh (J7.out.other (qai x7 D8 1 (.int .u64 (bv:Int))) hD8);have own9b:=Lh (qbb own7.out (qai x7 D8 1 (.int .u64 (bv:Int))) NB7.out);clear J7 own7 NB7;go_wp2_with fail;generalize x7.setCell ⟨D8,1,none⟩ (.int .u64 (bv:Int))=xa at N9b J9b own9b⊢;clear s1 f1 k7;refine(qlt v9 ((qag,n)::more) hal1 hal2 xa (qaN.of_owned own9b.out) (.inl (by simp))).mono ?_;rintro e xb ⟨lv,rfl,ownb,Bb⟩
         have hshp: ∃a n c,lv= .slice a n c:=by
          obtain⟨a,c,h⟩:=qae ownb;exact⟨a,_,c,h⟩
         obtain⟨lva,ln,lvc,rfl⟩:=hshp;have Jb:=Lh (J9b.out.on Bb);have Nb:=Lh (N9b.out.on Bb);have ownbh:=Lh ownb;have hszb:w.heap.size≤xa.heap.size:=J9b.out.2.2.size;have ownE:=Lh (qeT ownb (by have:=N9b.out.lt;omega:D8<xa.heap.size));clear Bb J9b N9b own9b ownb;have s0:=Nb.out.c0;have f0:=Nb.out.fz 0;have Nc:=Lh (Nb.out.set0 (.slice lva ln lvc));have Oc:=qai xb D8 0 (.slice lva ln lvc);have Jc:=Lh (Jb.out.other Oc hD8);have ownc:=Lh (ownE.out (xb.setCell ⟨D8,0,none⟩ (.slice lva ln lvc)) Oc);obtain⟨ra,hra⟩: ∃ra,ofF ((qag,n)::more)=ra:=⟨_,rfl⟩;obtain⟨oe,ols⟩:=ra;have hRv3:=hRv2.out;rw[qfr,hra] at hRv3;rw[hra] at ownc ownbh;rw[hra];simp only at hRv3 ownc⊢;clear Oc Jb hra ownE ownbh hRv2
         by_cases ho:oe=0
         case neg=>
          have u9:(oe !=0)=true:=by simpa using ho
          rw[if_neg ho] at hRv3;have hR:=Lh hRv3;clear hRv3 ho ownc Nb;have hF:Hid (qay l=(oe,qbj)):=Lh (hR.out);have hzr:=Lh Jc.out.zero;have z0:=Jc.out.1.c0;have z1:=Jc.out.1.c1;have z2:=Jc.out.1.c2;have z3:=Jc.out.1.c3;have y0:=Jc.out.1.fz 0;have y1:=Jc.out.1.fz 1;have y2:=Jc.out.1.fz 2;have y3:=Jc.out.1.fz 3;clear hR Jc;go_wp2_with fail;refine bodyPost_ret (qaq rfl _ _ _ _ _ _ _ rfl hzr.out.1) rfl ?_;exact qbM hF.out hzr.out.2
         case pos=>
          subst ho;rw[if_pos rfl] at hRv3;have hR:=Lh hRv3;clear hRv3 Nb;have z0:=Jc.out.1.c0;have z1:=Jc.out.1.c1;have z2:=Jc.out.1.c2;have z3:=Jc.out.1.c3;have y0:=Jc.out.1.fz 0;have y1:=Jc.out.1.fz 1;have y2:=Jc.out.1.fz 2;have y3:=Jc.out.1.fz 3;have t0:=Nc.out.c0;have t1:=Nc.out.c1;have t2:=Nc.out.c2;have t3:=Nc.out.c3;have hst2:=qhQ Jc.out (.slice lva ln lvc) (bv:Int) st tv;have own_f:=qeX Jc.out ownc.out (.slice lva ln lvc) (bv:Int) st tv hszb;replace hst2:=Lh hst2;replace own_f:=Lh own_f;clear Jc Nc ownc;go_wp2_with fail;refine bodyPost_ret (qaq rfl _ _ _ _ _ _ _ rfl hst2.out.1) rfl ?_;exact⟨_,by rw[hR.out];rfl,by rw[hR.out];exact⟨.slice lva ln lvc,rfl,own_f.out⟩,hst2.out.2⟩
    ·rw[if_neg hle] at hR;have u4:(le !=0)=true:=by simpa using hle
     have I8:Hid (SB w.heap.size (.slice none 0 0) 0 false 0 w8∧Below w.heap.size w w8):=Lh ⟨I7.out.1.only Oh.out (by omega),I7.out.2.2.trans (Oh.out.below (by omega) I7.out.2.2.size)⟩;have hF:Hid (qay l=(le,qbj)):=Lh hR;clear hgv hle hR hLh Oh I7 hpp;have hzr:=Lh (qpY I8.out.1 I8.out.2);have z0:=I8.out.1.c0;have z1:=I8.out.1.c1;have z2:=I8.out.1.c2;have z3:=I8.out.1.c3;have y0:=I8.out.1.fz 0;have y1:=I8.out.1.fz 1;have y2:=I8.out.1.fz 2;have y3:=I8.out.1.fz 3;clear I8;go_wp2_with fail;refine bodyPost_ret (qaq rfl _ _ _ _ _ _ _ rfl hzr.out.1) rfl ?_;exact qbM hF.out hzr.out.2
end Go.Proofs.YtdeimnnpcfncpaaGreatDoor.X
