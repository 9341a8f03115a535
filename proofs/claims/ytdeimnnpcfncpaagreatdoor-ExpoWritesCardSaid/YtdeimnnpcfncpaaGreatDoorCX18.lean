/- Parts of the proof: F21 X1 X2 W1 KB HA HB HC F25. -/
import Derived.Carry
import Derived.Test.YtdeimnnpcfncpaaGreatDoorRows
import Derived.ProofKit
import Derived.LaidMore
import Derived.OpenShut
import Derived.Lib.LaidTab
import Derived.Lib.LaidU8
import Derived.Stop.LaidErr
import Derived.MakeChecks
import Derived.HandedShaped
import Derived.Lay
import Derived.Shelf.Vars
import Derived.Deep.Cut
import Derived.RegionTactic
import Derived.ChangeAlike
import Derived.Test.YtdeimnnpcfncpaaGreatDoorCX16
import Derived.Test.YtdeimnnpcfncpaaGreatDoorCX17
set_option linter.unusedVariables false
set_option linter.unusedSimpArgs false
set_option maxRecDepth 100000
set_option maxHeartbeats 64000000
section
namespace Go.Proofs.YtdeimnnpcfncpaaGreatDoor
open Go
def okB (c:UInt8):Bool:=isD c||c==46||c==101||c==69||c==43||c==45
theorem qmz {c:UInt8} (h:isD c=true):c≠46:=fun e=>by subst e;exact absurd h (by decide)
theorem qb9 (l:List UInt8) (h: ∀c∈l,isD c=true):l.count 46=0:=List.count_eq_zero.2 (fun hm=>qmz (h _ hm) rfl)
theorem qcG {c:UInt8} (h:isD c=true):okB c=true:=by unfold okB;rw[h];rfl
theorem qfq (A R:List UInt8) (hA: ∀c∈A,isD c=true) (hR: ∀c,R.head?=some c→isD c=false):qbv (A++R)=A.length:=by
 unfold qbv;rw[List.takeWhile_append_of_pos hA]
 cases R with
 |nil=>simp
 |cons c t=>rw[List.takeWhile_cons,hR c rfl];simp
theorem qrj (A B R:List UInt8) (hA: ∀c∈A,isD c=true) (hB: ∀c∈B,isD c=true) (hR: ∀c,R.head?=some c→isD c=false):qfu (A++46::(B++R))=(A.length+B.length,R):=by
 have h1:=qfq A (46::(B++R)) hA (fun c hc=>by cases hc;rfl);have h2:=qfq B R hB hR;unfold qfu;dsimp only;rw[h1,List.drop_left];dsimp only;rw[if_pos rfl,h2,List.drop_left]
end Go.Proofs.YtdeimnnpcfncpaaGreatDoor
end
section
namespace Go.Proofs.YtdeimnnpcfncpaaGreatDoor
open Go Go.RowKit
def dgT (c:UInt8):UInt8:=UInt8.ofNat (48+c.toNat%10)
def tx (l:List UInt8) (i:Nat):List UInt8:=if i=0 then [48] else (l.take i).map dgT
def BS (l:List UInt8):ByteArray:=⟨l.toArray⟩
theorem qac (l:List UInt8):(BS l).size=l.length:=by unfold BS;show l.toArray.size=_;simp
theorem qaY (a b:List UInt8):BS a++BS b=BS (a++b):=by apply qbx;simp[BS]
theorem qoi {P:Program} {w w':World} {n:String} {k:IntKind} {zs:List Int} (h:Lib.TabIs P w n k zs) (hb:Below w.heap.size w w'):Lib.TabIs P w' n k zs:=by
 unfold Lib.TabIs World.var? at*
 cases hg:P.globalNamed n with
 |none=>rw[hg] at h;cases h
 |some g=>
  rw[hg] at h;simp only[Option.bind_some] at h⊢
  have hlt:g<w.heap.size:=by
   rcases Nat.lt_or_ge g w.heap.size with h'|h'
   ·exact h'
   ·rw[Array.getElem?_eq_none h'] at h;cases h
  rw[hb.block g hlt];exact h
structure qsD (w:World):Prop where
 p:qo1 w
 tab:Lib.TabIs Tryz.prog w "internal/strconv.uint64pow10" .u64 Lib.pow10Tab
theorem qsD.on {w W:World} (h:qsD w) (hb:Below w.heap.size w W):qsD W:=⟨h.p.on hb,qoi h.tab hb⟩
structure qtq (w:World):Prop where
 a:qsD w
 m: ∃m:Int,w.cell? ⟨0,0,none⟩=some (.int .i64 m)
theorem qtq.on {w W:World} (h:qtq w) (hb:Below w.heap.size w W):qtq W:=by
 refine⟨h.a.on hb,?_⟩;obtain⟨m,hm⟩:=h.m;exact⟨m,by rw[hb.cell (p:=⟨0,0,none⟩) (by have:=h.a.p.f.big;show 0<_;omega)];exact hm⟩
structure qaH (w:World) (D:Nat) (g:Nat→Nat) (nd dp:Int) (ng tr:Bool):Prop where
 ex: ∃cur:Array Value,w.heap[D]?=some (.cells cur 341 (0,0))∧(∀i,i<800→cur[i]?=some (.int .u8 (g i:Int)))∧cur[800]?=some (.int .i64 nd)∧cur[801]?=some (.int .i64 dp)∧cur[802]?=some (.bool ng)∧cur[803]?=some (.bool tr)
def upd (g:Nat→Nat) (i x:Nat):Nat→Nat:=fun j=>if j=i then x else g j
theorem qeS (g:Nat→Nat) (i x:Nat):upd g i x i=x:=if_pos rfl
theorem upd_ne (g:Nat→Nat) {i j:Nat} (x:Nat) (h:j≠i):upd g i x j=g j:=if_neg h
theorem qcQ {w:World} {D:Nat} {cur:Array Value} {t:TypeId} (h:w.heap[D]?=some (.cells cur t (0,0))) (i:Nat):w.cell? ⟨D,i,none⟩=cur[i]?:=by
 unfold World.cell?;rw[h];rfl
theorem qaH.cell {w:World} {D:Nat} {g:Nat→Nat} {nd dp:Int} {ng tr:Bool} (h:qaH w D g nd dp ng tr) (i:Nat) (hi:i<800):w.cell? ⟨D,i,none⟩=some (.int .u8 (g i:Int)):=by
 obtain⟨cur,h,h1,_⟩:=h.ex;rw[qcQ h];exact h1 i hi
theorem qaH.nd {w:World} {D:Nat} {g:Nat→Nat} {nd dp:Int} {ng tr:Bool} (h:qaH w D g nd dp ng tr):w.cell? ⟨D,800,none⟩=some (.int .i64 nd):=by
 obtain⟨cur,h,_,h1,_⟩:=h.ex;rw[qcQ h];exact h1
theorem qaH.dp {w:World} {D:Nat} {g:Nat→Nat} {nd dp:Int} {ng tr:Bool} (h:qaH w D g nd dp ng tr):w.cell? ⟨D,801,none⟩=some (.int .i64 dp):=by
 obtain⟨cur,h,_,_,h1,_⟩:=h.ex;rw[qcQ h];exact h1
theorem qaH.ng {w:World} {D:Nat} {g:Nat→Nat} {nd dp:Int} {ng tr:Bool} (h:qaH w D g nd dp ng tr):w.cell? ⟨D,802,none⟩=some (.bool ng):=by
 obtain⟨cur,h,_,_,_,h1,_⟩:=h.ex;rw[qcQ h];exact h1
theorem qaH.tr {w:World} {D:Nat} {g:Nat→Nat} {nd dp:Int} {ng tr:Bool} (h:qaH w D g nd dp ng tr):w.cell? ⟨D,803,none⟩=some (.bool tr):=by
 obtain⟨cur,h,_,_,_,_,h1⟩:=h.ex;rw[qcQ h];exact h1
theorem qaH.fz {w:World} {D:Nat} {g:Nat→Nat} {nd dp:Int} {ng tr:Bool} (h:qaH w D g nd dp ng tr) (i:Nat):w.frozen? ⟨D,i,none⟩=false:=by
 obtain⟨cur,h,_⟩:=h.ex;unfold World.frozen?;simp only[h];simp
theorem qaH.oth {w w':World} {D:Nat} {g:Nat→Nat} {nd dp:Int} {ng tr:Bool} (h:qaH w D g nd dp ng tr) (e:w'.heap[D]?=w.heap[D]?):qaH w' D g nd dp ng tr:=by
 obtain⟨cur,h,h1⟩:=h.ex;exact⟨cur,e.trans h,h1⟩
theorem qaH.drew {w:World} {D:Nat} {g:Nat→Nat} {nd dp:Int} {ng tr:Bool} (h:qaH w D g nd dp ng tr) (n:Nat):qaH (w.drewN n) D g nd dp ng tr:=h.oth rfl
theorem qee {w:World} {D:Nat} {cur:Array Value} {t:TypeId} (h:w.heap[D]?=some (.cells cur t (0,0))) (i:Nat) (u:Value):(w.setCell ⟨D,i,none⟩ u).heap[D]?=some (.cells (cur.setIfInBounds i u) t (0,0)):=by
 simp[World.setCell,Array.getElem?_modify,h]
theorem qaP {cur:Array Value} {i j:Nat} (u:Value) (h:i≠j):(cur.setIfInBounds i u)[j]?=cur[j]?:=Array.getElem?_setIfInBounds_ne h
theorem qgA {cur:Array Value} {i:Nat} {v:Value} (u:Value) (h:cur[i]?=some v):(cur.setIfInBounds i u)[i]?=some u:=by
 have:i<cur.size:=by
  rcases Nat.lt_or_ge i cur.size with h1|h1
  ·exact h1
  ·rw[Array.getElem?_eq_none h1] at h;cases h
 exact Array.getElem?_setIfInBounds_self_of_lt this
theorem qaH.setD {w:World} {D:Nat} {g:Nat→Nat} {nd dp:Int} {ng tr:Bool} (h:qaH w D g nd dp ng tr) (i x:Nat) (hi:i<800):qaH (w.setCell ⟨D,i,none⟩ (.int .u8 (x:Int))) D (upd g i x) nd dp ng tr:=by
 obtain⟨cur,h,h1,h2,h3,h4,h5⟩:=h.ex;refine⟨_,qee h i _,fun j hj=>?_,?_,?_,?_,?_⟩
 ·by_cases e:j=i
  ·subst e;rw[qeS,qgA _ (h1 j hj)]
  ·rw[upd_ne g x e,qaP _ (Ne.symm e)];exact h1 j hj
 ·rw[qaP _ (by omega)];exact h2
 ·rw[qaP _ (by omega)];exact h3
 ·rw[qaP _ (by omega)];exact h4
 ·rw[qaP _ (by omega)];exact h5
theorem qaH.setN {w:World} {D:Nat} {g:Nat→Nat} {nd dp:Int} {ng tr:Bool} (h:qaH w D g nd dp ng tr) (x:Int):qaH (w.setCell ⟨D,800,none⟩ (.int .i64 x)) D g x dp ng tr:=by
 obtain⟨cur,h,h1,h2,h3,h4,h5⟩:=h.ex;refine⟨_,qee h 800 _,fun j hj=>?_,qgA _ h2,?_,?_,?_⟩
 ·rw[qaP _ (by omega)];exact h1 j hj
 ·rw[qaP _ (by omega)];exact h3
 ·rw[qaP _ (by omega)];exact h4
 ·rw[qaP _ (by omega)];exact h5
theorem qaH.setP {w:World} {D:Nat} {g:Nat→Nat} {nd dp:Int} {ng tr:Bool} (h:qaH w D g nd dp ng tr) (x:Int):qaH (w.setCell ⟨D,801,none⟩ (.int .i64 x)) D g nd x ng tr:=by
 obtain⟨cur,h,h1,h2,h3,h4,h5⟩:=h.ex;refine⟨_,qee h 801 _,fun j hj=>?_,?_,qgA _ h3,?_,?_⟩
 ·rw[qaP _ (by omega)];exact h1 j hj
 ·rw[qaP _ (by omega)];exact h2
 ·rw[qaP _ (by omega)];exact h4
 ·rw[qaP _ (by omega)];exact h5
theorem qaH.setG {w:World} {D:Nat} {g:Nat→Nat} {nd dp:Int} {ng tr:Bool} (h:qaH w D g nd dp ng tr) (x:Bool):qaH (w.setCell ⟨D,802,none⟩ (.bool x)) D g nd dp x tr:=by
 obtain⟨cur,h,h1,h2,h3,h4,h5⟩:=h.ex;refine⟨_,qee h 802 _,fun j hj=>?_,?_,?_,qgA _ h4,?_⟩
 ·rw[qaP _ (by omega)];exact h1 j hj
 ·rw[qaP _ (by omega)];exact h2
 ·rw[qaP _ (by omega)];exact h3
 ·rw[qaP _ (by omega)];exact h5
theorem qaH.setT {w:World} {D:Nat} {g:Nat→Nat} {nd dp:Int} {ng tr:Bool} (h:qaH w D g nd dp ng tr) (x:Bool):qaH (w.setCell ⟨D,803,none⟩ (.bool x)) D g nd dp ng x:=by
 obtain⟨cur,h,h1,h2,h3,h4,h5⟩:=h.ex;refine⟨_,qee h 803 _,fun j hj=>?_,?_,?_,?_,qgA _ h5⟩
 ·rw[qaP _ (by omega)];exact h1 j hj
 ·rw[qaP _ (by omega)];exact h2
 ·rw[qaP _ (by omega)];exact h3
 ·rw[qaP _ (by omega)];exact h4
theorem qaH.congr {w:World} {D:Nat} {g h:Nat→Nat} {nd dp:Int} {ng tr:Bool} (H:qaH w D g nd dp ng tr) (e: ∀i,i<800→g i=h i):qaH w D h nd dp ng tr:=by
 obtain⟨cur,a,h1,h2⟩:=H.ex;exact⟨cur,a,fun i hi=>by rw[←e i hi];exact h1 i hi,h2⟩
theorem qad {B:Nat} {a w:World} (h:Below B a w) (n:Nat):Below B a (w.drewN n):=h.trans ⟨rfl,rfl,rfl,Nat.le_refl _,fun _ _=>rfl⟩
theorem qel (B D:Nat) (g:Nat→Nat) (nd:Nat) (dp:Int) (ng tr:Bool) (w:World) (h:qaH w D g nd dp ng tr) (hn:nd≤800) (hB:B≤D):
 Calls Tryz.prog 307 #[.pointer (some ⟨D,0,none⟩)] w fun e w'=>e= .returned (.tuple #[])∧(∃n:Nat,n≤nd∧(∀i,n≤i→i<nd→g i=48)∧(n=0∨g (n - 1)≠48)∧qaH w' D g n (if n=0 then 0 else dp) ng tr)∧Below B w w':=by
 have H0:=Lh h;clear h;go_enter Tryz.func307,Tryz.ntmps307;go_wp2_with fail;go_loopg [] (nd+1) (fun gk wx=> ∃n:Nat,n<gk∧n≤nd∧Hid (∀i,n≤i→i<nd→g i=48)∧Hid (qaH wx D g n dp ng tr)∧Hid (Below B w wx))
 case atStart=>exact⟨nd,by omega,by omega,Lh (fun i h1 h2=>by omega),H0,Lh (Below.refl _ _)⟩
 case round=>
  obtain⟨n,hng,hnn,hz,hD,hb⟩:=hrel;have c1:=hD.out.nd;have p1:=hD.out.dp;have f1:=hD.out.fz 800;have f2:=hD.out.fz 801
  by_cases h0:n=0
  ·subst h0;have i1:decide ((0:Int)<((0:Nat):Int))=false:=rfl;go_upto_region 0 with (fail)
   go_quiet (fail);go_wp2_with fail;go_end0;refine⟨rfl,⟨0,by omega,hz.out,.inl rfl,?_⟩,?_⟩
   ·rw[if_pos rfl];exact(hD.out.drew _).setP 0
   ·exact(qad hb.out _).setCell hB _
  ·obtain⟨m,rfl⟩: ∃m,n=m+1:=⟨n - 1,by omega⟩;have i1:decide ((0:Int)<((m+1:Nat):Int))=true:=dT (by omega);have c2:=hD.out.cell m (by omega);have e1:((m+1:Nat):Int) - 1=(m:Int):=by omega
   by_cases h8:g m=48
   ·have i2:(((g m:Nat):Int)==48)=true:=by rw[h8];rfl
    go_upto_region 0 with (fail)
    go_quiet (fail);go_wp2_with fail;go_roundg (gk - 1)
    case measure=>omega
    case rel=>
     refine⟨m,by omega,by omega,Lh (fun i h1 h2=>?_),Lh ((hD.out.drew _).setN _),Lh ((qad hb.out _).setCell hB _)⟩
     by_cases e:i=m
     ·rw[e];exact h8
     ·exact hz.out i (by omega) h2
   ·have i2:(((g m:Nat):Int)==48)=false:=by
     rw[beq_eq_false_iff_ne];omega
    go_upto_region 0 with (fail)
    go_quiet (fail);have i3:(((m+1:Nat):Int)==0)=false:=by rw[beq_eq_false_iff_ne];omega
    go_wp2_with fail;go_end0;refine⟨rfl,⟨m+1,hnn,hz.out,.inr h8,?_⟩,qad hb.out _⟩;rw[if_neg (by omega)];exact hD.out.drew _
theorem qn7 (D:Nat) (g:Nat→Nat) (nd:Nat) (dn dp:Int) (ng tr:Bool) (s:ByteArray) (w:World) (h:qaH w D g dn dp ng tr) (hn:nd≤800) (hs:s.size≤1000):
 Calls Tryz.prog 306 #[.slice (some ⟨D,0,none⟩) nd 800,.string s] w fun e w'=>(∃b,e= .returned (.bool b)∧(b=true→Pfx g nd (sb s) s.size)∧(b=false→Nfx g nd (sb s) s.size))∧ ∃n,w'=w.drewN n:=by
 have H0:=Lh h;clear h;go_enter Tryz.func306,Tryz.ntmps306;go_wp2_with fail;go_loopg [5] (s.size+1) (fun gk s5 wx=> ∃(i m:Nat),s.size - i<gk∧i≤s.size∧s5= .int .i64 (i:Int)∧Hid (∀j,j<i→j<nd∧g j=sb s j)∧wx=w.drewN m)
 case atStart=>exact⟨0,0,by omega,by omega,rfl,Lh (fun j hj=>by omega),rfl⟩
 case round=>
  obtain⟨i,m,hig,hin,rfl,hz,rfl⟩:=hrel;have hD:=H0
  by_cases h0:i<s.size
  ·have i1:decide ((i:Int)<(s.size:Int))=true:=dT (by omega);have i1':decide (i<s.size)=true:=dT h0
   by_cases h1:nd≤i
   ·have i2:decide ((nd:Int)≤(i:Int))=true:=dT (by omega);have i2':decide (nd≤i)=true:=dT h1;go_wp2_with fail;go_ret;exact⟨⟨true,rfl,fun _=>⟨i,h0,hz.out,.inl h1⟩,fun h=>by cases h⟩,m,rfl⟩
   ·have i2:decide ((nd:Int)≤(i:Int))=false:=dF (by omega);have i2':decide (nd≤i)=false:=dF h1;have i3':decide (i<nd)=true:=dT (by omega);have c2:=hD.out.cell i (by omega);obtain⟨c,hc,hB⟩:=qc0 s i h0
    by_cases h2:g i=c.toNat
    ·have i4:((g i:Int)==(c.toNat:Int))=true:=by rw[h2];simp
     go_upto_region 6 with (fail)
     go_quiet (fail);go_wp2_with fail
     have hz2: ∀j,j<i+1→j<nd∧g j=sb s j:=fun j hj=>by
      by_cases e:j=i
      ·subst e;exact⟨by omega,by rw[h2];unfold sb;rw[hc.out]⟩
      ·exact hz.out j (by omega)
     go_roundg (gk - 1)
     case measure=>omega
     case rel=>exact⟨i+1,_,by omega,by omega,by go_num,Lh hz2,rfl⟩
    ·have i4:((g i:Int)==(c.toNat:Int))=false:=by rw[beq_eq_false_iff_ne];omega
     go_upto_region 6 with (fail)
     go_quiet (fail);go_upto_region 7 with (fail)
     go_quiet (fail);have hsb:sb s i=c.toNat:=by unfold sb;rw[hc.out]
     go_wp2_with fail;go_ret;refine⟨⟨_,rfl,fun h=>?_,fun h=>?_⟩,_,by rw[World.drewN_drewN,World.drewN_drewN]⟩
     ·have:=of_decide_eq_true h;exact⟨i,h0,hz.out,.inr (by rw[hsb];omega)⟩
     ·have:=of_decide_eq_false h;exact .inr ⟨i,h0,by omega,fun j hj=>(hz.out j hj).2,by rw[hsb];omega⟩
  ·obtain rfl:i=s.size:=by omega
   have i1:decide ((s.size:Int)<(s.size:Int))=false:=dF (by omega);have i1':decide (s.size<s.size)=false:=dF (by omega);go_wp2_with fail;go_ret;exact⟨⟨false,rfl,(fun h=>by cases h),fun _=> .inl hz.out⟩,m,rfl⟩
theorem qs7 (D:Nat) (g:Nat→Nat) (nd:Nat) (dn dp:Int) (ng tr:Bool) (s:ByteArray) (w:World) (h:qaH w D g dn dp ng tr) (hn:nd≤800) (hs:s.size≤1000) (hg:qdx g nd) (hd:qdx (sb s) s.size) (h5:s.size=0∨48<sb s (s.size - 1)):
 Calls Tryz.prog 306 #[.slice (some ⟨D,0,none⟩) nd 800,.string s] w fun e w'=>e= .returned (.bool (decide (num (ext g nd) s.size<num (sb s) s.size)))∧ ∃n,w'=w.drewN n:=by
 refine(qn7 D g nd dn dp ng tr s w h hn hs).mono ?_;rintro e w' ⟨⟨b,rfl,h1,h2⟩,h3⟩;refine⟨?_,h3⟩
 cases b with
 |true=>rw[dT (qqh hg hd h5 (h1 rfl))]
 |false=>rw[dF (Nat.not_lt.2 (qrr hg hd (h2 rfl)))]
end Go.Proofs.YtdeimnnpcfncpaaGreatDoor
end
section
namespace Go.Proofs.YtdeimnnpcfncpaaGreatDoor
open Go Ieee
theorem qcJ (l:List UInt8) (h:qaK l):qak l<10^l.length:=by
 induction l with
 |nil=>exact Nat.one_pos
 |cons c t ih=>
  have hc:=h c (List.mem_cons_self ..);have:=ih (fun x hx=>h x (List.mem_cons_of_mem _ hx));rw[qaE,List.length_cons,Nat.pow_succ];have h9:(c.toNat - 48)*10^t.length≤9*10^t.length:=Nat.mul_le_mul_right _ (by omega);omega
theorem qa7 {c:UInt8} {t:List UInt8} (h:qaK (c::t)):48≤c.toNat∧c.toNat≤57∧qaK t:=⟨(h c (List.mem_cons_self ..)).1,(h c (List.mem_cons_self ..)).2,fun x hx=>h x (List.mem_cons_of_mem _ hx)⟩
theorem qbS {a b:List UInt8} (h:qaK (a++b)):qaK a∧qaK b:=⟨fun x hx=>h x (List.mem_append_left _ hx),fun x hx=>h x (List.mem_append_right _ hx)⟩
theorem qtr {c:UInt8} (h:c.toNat=48):c=48:=UInt8.toNat_inj.1 h
theorem qcq (c:UInt8) (t:List UInt8) (h:qaK (c::t)) (hc:c≠48):10^t.length≤qak (c::t):=by
 obtain⟨h1,h2,h3⟩:=qa7 h;rw[qaE];have h4:c.toNat≠48:=fun e=>hc (qtr e)
 have:1*10^t.length≤(c.toNat - 48)*10^t.length:=Nat.mul_le_mul_right _ (by omega);omega
theorem canon (n:Nat): ∀l:List UInt8,l.length=n→qaK l→l≠[]→(l.head?≠some 48∨l.length=1)→l=Lib.decDigits (qak l):=by
 induction n with
 |zero=>intro l h _ h0;exact absurd (List.eq_nil_of_length_eq_zero h) h0
 |succ n ih=>
  intro l hl hd h0 hh;obtain⟨a,x,rfl⟩: ∃a x,l=a++[x]:=⟨l.dropLast,l.getLast h0,(List.dropLast_concat_getLast h0).symm⟩;obtain⟨ha,hx⟩:=qbS hd;have hx1:=hx x (List.mem_singleton.2 rfl);rw[List.length_append,List.length_singleton] at hl
  by_cases hn:a=[]
  ·subst hn;rw[List.nil_append,qcl,Lib.decDigits,dif_pos (by omega)];rw[show 48+(x.toNat - 48)=x.toNat by omega,UInt8.ofNat_toNat]
  ·have hha:a.head?≠some 48:=by
    rcases hh with hh|hh
    ·intro e;apply hh
     cases a with
     |nil=>exact absurd rfl hn
     |cons c t=>exact e
    ·rw[List.length_append,List.length_singleton] at hh;have:=List.length_pos_iff.2 hn;omega
   have hi:=ih a (by omega) ha hn (.inl hha)
   have hp:1≤qak a:=by
    cases a with
    |nil=>exact absurd rfl hn
    |cons c t=>
     have:=qcq c t ha (fun e=>hha (by rw[e];rfl));have:=Nat.pow_pos (n:=t.length) (show 0<10 by decide);omega
   rw[qay,qcl,List.length_singleton,Nat.pow_one,Lib.decDigits,dif_neg (by omega)];rw[show(qak a*10+(x.toNat - 48))/10=qak a by omega,show 48+(qak a*10+(x.toNat - 48))%10=x.toNat by omega,←hi,UInt8.ofNat_toNat]
theorem qg0 (l:List UInt8) (h:qaK l):Lib.trimLeftB l 48=if qak l=0 then [] else Lib.decDigits (qak l):=by
 induction l with
 |nil=>rfl
 |cons c t ih=>
  obtain⟨h1,h2,h3⟩:=qa7 h
  by_cases hc:c=48
  ·subst hc;have e:qak (48::t)=qak t:=by rw[qaE];simp
   rw[e,←ih h3];rfl
  ·have hp:=qcq c t h hc;have:=Nat.pow_pos (n:=t.length) (show 0<10 by decide);rw[if_neg (by omega),←canon _ (c::t) rfl h (by simp) (.inl (by simpa using hc))];unfold Lib.trimLeftB;rw[List.dropWhile_cons,if_neg (by simpa using hc)]
theorem quK (A B C D:Nat):A*D*C*B=D*B*C*A:=by ac_rfl
theorem qkp (s:Bool) (r U:Nat) (hU:2^1074=U) (hr:r<INF): ∃L q,exD (sgw s+r)=(L,q)∧qaK L∧q≤L.length∧(q≤1074∧q≤1075 - ex r)∧qak L*U=V r*10^q:=by
 replace hU:=Lh hU;have hI:INF=9218868437227405312:=rfl
 have hw:(sgw s+r)/4503599627370496%2048=r/4503599627370496∧(sgw s+r)%4503599627370496=r%4503599627370496:=by
  cases s<;>simp only[sgw,Bool.false_eq_true,if_false,if_true]<;>omega
 have hE:exE (sgw s+r)=ex r:=by
  unfold exE ex;rw[hw.1]
  by_cases h:r<4503599627370496
  ·rw[if_pos h,if_pos (by omega)]
  ·rw[if_neg h,if_neg (by omega)]
 have hF:exF (sgw s+r)=fr r:=by
  unfold exF fr;rw[hw.1,hw.2]
  by_cases h:r<4503599627370496
  ·rw[if_pos h,if_pos (by omega),Nat.mod_eq_of_lt h]
  ·rw[if_neg h,if_neg (by omega)]
 have he1:1≤ex r:=by
  unfold ex;split<;>omega
 have hV:V r=fr r*2^(ex r - 1):=rfl;unfold exD;rw[hE,hF,hV];obtain⟨a1,a2⟩:=qnt (ex r - 1075) (Lib.decDigits (fr r)) (qcs _);rw[qbY] at a1
 by_cases h0:0<fr r
 ·rw[if_pos h0];obtain⟨L,p,b1,b2,b3,b4,b5⟩:=qm6 (1075 - ex r) _ 0 a2;rw[Nat.zero_add] at b1;have hp4:p≤1074:=Nat.le_trans b5 (by have:=he1;revert this;generalize ex r=E;intro this;omega);refine⟨L,p,b1,b2,b4▸Nat.le_add_left _ _,⟨hp4,b5⟩,?_⟩;rw[a1] at b3
  have e1:U*2^(ex r - 1075)=2^(1075 - ex r)*2^(ex r - 1):=by
   have q1:=Nat.pow_add 2 1074 (ex r - 1075);rw[hU.out] at q1;rw[←q1,←Nat.pow_add 2 (1075 - ex r) (ex r - 1)];exact congrArg (2^ ·) (by omega)
  have hz:0<2^(ex r - 1075):=Nat.two_pow_pos _;apply Nat.eq_of_mul_eq_mul_right hz;rw[Nat.mul_assoc,e1,←Nat.mul_assoc,b3];generalize 2^(ex r - 1075)=A;generalize 2^(ex r - 1)=B;generalize 10^p=C;generalize fr r=D;exact quK A B C D
 ·have hf0:fr r=0:=by omega
  rw[if_neg h0];exact⟨_,0,rfl,a2,Nat.zero_le _,⟨Nat.zero_le _,Nat.zero_le _⟩,by rw[a1,hf0,Nat.mul_zero,Nat.zero_mul,Nat.zero_mul,Nat.zero_mul]⟩
end Go.Proofs.YtdeimnnpcfncpaaGreatDoor
end
