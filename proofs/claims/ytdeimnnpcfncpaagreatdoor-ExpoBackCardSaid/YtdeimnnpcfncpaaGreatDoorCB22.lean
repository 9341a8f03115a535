/- Parts of the proof: HA HB HC. -/
import Derived.IntWalk
import Derived.Laws.BitsAllLaws
import Derived.Deep.Cut
import Derived.RegionTactic
import Derived.ChangeAlike
import Derived.Carry
import Derived.OneCell
import Derived.Test.YtdeimnnpcfncpaaGreatDoorCB05
set_option linter.unusedVariables false
set_option linter.unusedSimpArgs false
set_option maxRecDepth 100000
set_option maxHeartbeats 64000000
namespace Go.Proofs.YtdeimnnpcfncpaaGreatDoor
open Go Go.RowKit
structure qaI (w:World) (D:Nat) (g:Nat→Nat) (nd dp:Int) (ng tr:Bool):Prop where
 ex: ∃cur:Array Value,w.heap[D]?=some (.cells cur 341 (0,0))∧(∀i,i<800→cur[i]?=some (.int .u8 (g i:Int)))∧cur[800]?=some (.int .i64 nd)∧cur[801]?=some (.int .i64 dp)∧cur[802]?=some (.bool ng)∧cur[803]?=some (.bool tr)
def upd (g:Nat→Nat) (i x:Nat):Nat→Nat:=fun j=>if j=i then x else g j
theorem qes (g:Nat→Nat) (i x:Nat):upd g i x i=x:=if_pos rfl
theorem upd_ne (g:Nat→Nat) {i j:Nat} (x:Nat) (h:j≠i):upd g i x j=g j:=if_neg h
theorem qcC {w:World} {D:Nat} {cur:Array Value} {t:TypeId} (h:w.heap[D]?=some (.cells cur t (0,0))) (i:Nat):w.cell? ⟨D,i,none⟩=cur[i]?:=by
 unfold World.cell?;rw[h];rfl
theorem qaI.cell {w:World} {D:Nat} {g:Nat→Nat} {nd dp:Int} {ng tr:Bool} (h:qaI w D g nd dp ng tr) (i:Nat) (hi:i<800):w.cell? ⟨D,i,none⟩=some (.int .u8 (g i:Int)):=by
 obtain⟨cur,h,h1,_⟩:=h.ex;rw[qcC h];exact h1 i hi
theorem qaI.nd {w:World} {D:Nat} {g:Nat→Nat} {nd dp:Int} {ng tr:Bool} (h:qaI w D g nd dp ng tr):w.cell? ⟨D,800,none⟩=some (.int .i64 nd):=by
 obtain⟨cur,h,_,h1,_⟩:=h.ex;rw[qcC h];exact h1
theorem qaI.dp {w:World} {D:Nat} {g:Nat→Nat} {nd dp:Int} {ng tr:Bool} (h:qaI w D g nd dp ng tr):w.cell? ⟨D,801,none⟩=some (.int .i64 dp):=by
 obtain⟨cur,h,_,_,h1,_⟩:=h.ex;rw[qcC h];exact h1
theorem qaI.ng {w:World} {D:Nat} {g:Nat→Nat} {nd dp:Int} {ng tr:Bool} (h:qaI w D g nd dp ng tr):w.cell? ⟨D,802,none⟩=some (.bool ng):=by
 obtain⟨cur,h,_,_,_,h1,_⟩:=h.ex;rw[qcC h];exact h1
theorem qaI.tr {w:World} {D:Nat} {g:Nat→Nat} {nd dp:Int} {ng tr:Bool} (h:qaI w D g nd dp ng tr):w.cell? ⟨D,803,none⟩=some (.bool tr):=by
 obtain⟨cur,h,_,_,_,_,h1⟩:=h.ex;rw[qcC h];exact h1
theorem qaI.fz {w:World} {D:Nat} {g:Nat→Nat} {nd dp:Int} {ng tr:Bool} (h:qaI w D g nd dp ng tr) (i:Nat):w.frozen? ⟨D,i,none⟩=false:=by
 obtain⟨cur,h,_⟩:=h.ex;unfold World.frozen?;simp only[h];simp
theorem qaI.oth {w w':World} {D:Nat} {g:Nat→Nat} {nd dp:Int} {ng tr:Bool} (h:qaI w D g nd dp ng tr) (e:w'.heap[D]?=w.heap[D]?):qaI w' D g nd dp ng tr:=by
 obtain⟨cur,h,h1⟩:=h.ex;exact⟨cur,e.trans h,h1⟩
theorem qaI.drew {w:World} {D:Nat} {g:Nat→Nat} {nd dp:Int} {ng tr:Bool} (h:qaI w D g nd dp ng tr) (n:Nat):qaI (w.drewN n) D g nd dp ng tr:=h.oth rfl
theorem qeb {w:World} {D:Nat} {cur:Array Value} {t:TypeId} (h:w.heap[D]?=some (.cells cur t (0,0))) (i:Nat) (u:Value):(w.setCell ⟨D,i,none⟩ u).heap[D]?=some (.cells (cur.setIfInBounds i u) t (0,0)):=by
 simp[World.setCell,Array.getElem?_modify,h]
theorem qaV {cur:Array Value} {i j:Nat} (u:Value) (h:i≠j):(cur.setIfInBounds i u)[j]?=cur[j]?:=Array.getElem?_setIfInBounds_ne h
theorem qgz {cur:Array Value} {i:Nat} {v:Value} (u:Value) (h:cur[i]?=some v):(cur.setIfInBounds i u)[i]?=some u:=by
 have:i<cur.size:=by
  rcases Nat.lt_or_ge i cur.size with h1|h1
  ·exact h1
  ·rw[Array.getElem?_eq_none h1] at h;cases h
 exact Array.getElem?_setIfInBounds_self_of_lt this
theorem qaI.setD {w:World} {D:Nat} {g:Nat→Nat} {nd dp:Int} {ng tr:Bool} (h:qaI w D g nd dp ng tr) (i x:Nat) (hi:i<800):qaI (w.setCell ⟨D,i,none⟩ (.int .u8 (x:Int))) D (upd g i x) nd dp ng tr:=by
 obtain⟨cur,h,h1,h2,h3,h4,h5⟩:=h.ex;refine⟨_,qeb h i _,fun j hj=>?_,?_,?_,?_,?_⟩
 ·by_cases e:j=i
  ·subst e;rw[qes,qgz _ (h1 j hj)]
  ·rw[upd_ne g x e,qaV _ (Ne.symm e)];exact h1 j hj
 ·rw[qaV _ (by omega)];exact h2
 ·rw[qaV _ (by omega)];exact h3
 ·rw[qaV _ (by omega)];exact h4
 ·rw[qaV _ (by omega)];exact h5
theorem qaI.setN {w:World} {D:Nat} {g:Nat→Nat} {nd dp:Int} {ng tr:Bool} (h:qaI w D g nd dp ng tr) (x:Int):qaI (w.setCell ⟨D,800,none⟩ (.int .i64 x)) D g x dp ng tr:=by
 obtain⟨cur,h,h1,h2,h3,h4,h5⟩:=h.ex;refine⟨_,qeb h 800 _,fun j hj=>?_,qgz _ h2,?_,?_,?_⟩
 ·rw[qaV _ (by omega)];exact h1 j hj
 ·rw[qaV _ (by omega)];exact h3
 ·rw[qaV _ (by omega)];exact h4
 ·rw[qaV _ (by omega)];exact h5
theorem qaI.setP {w:World} {D:Nat} {g:Nat→Nat} {nd dp:Int} {ng tr:Bool} (h:qaI w D g nd dp ng tr) (x:Int):qaI (w.setCell ⟨D,801,none⟩ (.int .i64 x)) D g nd x ng tr:=by
 obtain⟨cur,h,h1,h2,h3,h4,h5⟩:=h.ex;refine⟨_,qeb h 801 _,fun j hj=>?_,?_,qgz _ h3,?_,?_⟩
 ·rw[qaV _ (by omega)];exact h1 j hj
 ·rw[qaV _ (by omega)];exact h2
 ·rw[qaV _ (by omega)];exact h4
 ·rw[qaV _ (by omega)];exact h5
theorem qaI.setG {w:World} {D:Nat} {g:Nat→Nat} {nd dp:Int} {ng tr:Bool} (h:qaI w D g nd dp ng tr) (x:Bool):qaI (w.setCell ⟨D,802,none⟩ (.bool x)) D g nd dp x tr:=by
 obtain⟨cur,h,h1,h2,h3,h4,h5⟩:=h.ex;refine⟨_,qeb h 802 _,fun j hj=>?_,?_,?_,qgz _ h4,?_⟩
 ·rw[qaV _ (by omega)];exact h1 j hj
 ·rw[qaV _ (by omega)];exact h2
 ·rw[qaV _ (by omega)];exact h3
 ·rw[qaV _ (by omega)];exact h5
theorem qaI.setT {w:World} {D:Nat} {g:Nat→Nat} {nd dp:Int} {ng tr:Bool} (h:qaI w D g nd dp ng tr) (x:Bool):qaI (w.setCell ⟨D,803,none⟩ (.bool x)) D g nd dp ng x:=by
 obtain⟨cur,h,h1,h2,h3,h4,h5⟩:=h.ex;refine⟨_,qeb h 803 _,fun j hj=>?_,?_,?_,?_,qgz _ h5⟩
 ·rw[qaV _ (by omega)];exact h1 j hj
 ·rw[qaV _ (by omega)];exact h2
 ·rw[qaV _ (by omega)];exact h3
 ·rw[qaV _ (by omega)];exact h4
theorem qaI.congr {w:World} {D:Nat} {g h:Nat→Nat} {nd dp:Int} {ng tr:Bool} (H:qaI w D g nd dp ng tr) (e: ∀i,i<800→g i=h i):qaI w D h nd dp ng tr:=by
 obtain⟨cur,a,h1,h2⟩:=H.ex;exact⟨cur,a,fun i hi=>by rw[←e i hi];exact h1 i hi,h2⟩
theorem qae {B:Nat} {a w:World} (h:Below B a w) (n:Nat):Below B a (w.drewN n):=h.trans ⟨rfl,rfl,rfl,Nat.le_refl _,fun _ _=>rfl⟩
theorem qdW (B D:Nat) (g:Nat→Nat) (nd:Nat) (dp:Int) (ng tr:Bool) (w:World) (h:qaI w D g nd dp ng tr) (hn:nd≤800) (hB:B≤D):
 Calls Tryz.prog 307 #[.pointer (some ⟨D,0,none⟩)] w fun e w'=>e= .returned (.tuple #[])∧(∃n:Nat,n≤nd∧(∀i,n≤i→i<nd→g i=48)∧(n=0∨g (n - 1)≠48)∧qaI w' D g n (if n=0 then 0 else dp) ng tr)∧Below B w w':=by
 have H0:=Lh h;clear h;go_enter Tryz.func307,Tryz.ntmps307;go_wp2_with fail;go_loopg [] (nd+1) (fun gk wx=> ∃n:Nat,n<gk∧n≤nd∧Hid (∀i,n≤i→i<nd→g i=48)∧Hid (qaI wx D g n dp ng tr)∧Hid (Below B w wx))
 case atStart=>exact⟨nd,by omega,by omega,Lh (fun i h1 h2=>by omega),H0,Lh (Below.refl _ _)⟩
 case round=>
  obtain⟨n,hng,hnn,hz,hD,hb⟩:=hrel;have c1:=hD.out.nd;have p1:=hD.out.dp;have f1:=hD.out.fz 800;have f2:=hD.out.fz 801
  by_cases h0:n=0
  ·subst h0;have i1:decide ((0:Int)<((0:Nat):Int))=false:=rfl;go_upto_region 0 with (fail)
   go_quiet (fail);go_wp2_with fail;go_end0;refine⟨rfl,⟨0,by omega,hz.out,.inl rfl,?_⟩,?_⟩
   ·rw[if_pos rfl];exact(hD.out.drew _).setP 0
   ·exact(qae hb.out _).setCell hB _
  ·obtain⟨m,rfl⟩: ∃m,n=m+1:=⟨n - 1,by omega⟩;have i1:decide ((0:Int)<((m+1:Nat):Int))=true:=dT (by omega);have c2:=hD.out.cell m (by omega);have e1:((m+1:Nat):Int) - 1=(m:Int):=by omega
   by_cases h8:g m=48
   ·have i2:(((g m:Nat):Int)==48)=true:=by rw[h8];rfl
    go_upto_region 0 with (fail)
    go_quiet (fail);go_wp2_with fail;go_roundg (gk - 1)
    case measure=>omega
    case rel=>
     refine⟨m,by omega,by omega,Lh (fun i h1 h2=>?_),Lh ((hD.out.drew _).setN _),Lh ((qae hb.out _).setCell hB _)⟩
     by_cases e:i=m
     ·rw[e];exact h8
     ·exact hz.out i (by omega) h2
   ·have i2:(((g m:Nat):Int)==48)=false:=by
     rw[beq_eq_false_iff_ne];omega
    go_upto_region 0 with (fail)
    go_quiet (fail);have i3:(((m+1:Nat):Int)==0)=false:=by rw[beq_eq_false_iff_ne];omega
    go_wp2_with fail;go_end0;refine⟨rfl,⟨m+1,hnn,hz.out,.inr h8,?_⟩,qae hb.out _⟩;rw[if_neg (by omega)];exact hD.out.drew _
theorem ql2 (D:Nat) (g:Nat→Nat) (nd:Nat) (dn dp:Int) (ng tr:Bool) (s:ByteArray) (w:World) (h:qaI w D g dn dp ng tr) (hn:nd≤800) (hs:s.size≤1000):
 Calls Tryz.prog 306 #[.slice (some ⟨D,0,none⟩) nd 800,.string s] w fun e w'=>(∃b,e= .returned (.bool b)∧(b=true→Pfx g nd (sb s) s.size)∧(b=false→Nfx g nd (sb s) s.size))∧ ∃n,w'=w.drewN n:=by
 have H0:=Lh h;clear h;go_enter Tryz.func306,Tryz.ntmps306;go_wp2_with fail;go_loopg [5] (s.size+1) (fun gk s5 wx=> ∃(i m:Nat),s.size - i<gk∧i≤s.size∧s5= .int .i64 (i:Int)∧Hid (∀j,j<i→j<nd∧g j=sb s j)∧wx=w.drewN m)
 case atStart=>exact⟨0,0,by omega,by omega,rfl,Lh (fun j hj=>by omega),rfl⟩
 case round=>
  obtain⟨i,m,hig,hin,rfl,hz,rfl⟩:=hrel;have hD:=H0
  by_cases h0:i<s.size
  ·have i1:decide ((i:Int)<(s.size:Int))=true:=dT (by omega);have i1':decide (i<s.size)=true:=dT h0
   by_cases h1:nd≤i
   ·have i2:decide ((nd:Int)≤(i:Int))=true:=dT (by omega);have i2':decide (nd≤i)=true:=dT h1;go_wp2_with fail;go_ret;exact⟨⟨true,rfl,fun _=>⟨i,h0,hz.out,.inl h1⟩,fun h=>by cases h⟩,m,rfl⟩
   ·have i2:decide ((nd:Int)≤(i:Int))=false:=dF (by omega);have i2':decide (nd≤i)=false:=dF h1;have i3':decide (i<nd)=true:=dT (by omega);have c2:=hD.out.cell i (by omega);obtain⟨c,hc,hB⟩:=qdi s i h0
    by_cases h2:g i=c.toNat
    ·have i4:((g i:Int)==(c.toNat:Int))=true:=by rw[h2];simp
     go_upto_region 6 with (fail)
     go_quiet (fail);go_wp2_with fail
     have hz2: ∀j,j<i+1→j<nd∧g j=sb s j:=fun j hj=>by
      by_cases e:j=i
      ·subst e;exact⟨by omega,by rw[h2];unfold sb;rw[hc.out]⟩
      ·exact hz.out j (by omega)
     go_roundg (gk - 1)
     case measure=>omega
     case rel=>exact⟨i+1,_,by omega,by omega,by go_num,Lh hz2,rfl⟩
    ·have i4:((g i:Int)==(c.toNat:Int))=false:=by rw[beq_eq_false_iff_ne];omega
     go_upto_region 6 with (fail)
     go_quiet (fail);go_upto_region 7 with (fail)
     go_quiet (fail);have hsb:sb s i=c.toNat:=by unfold sb;rw[hc.out]
     go_wp2_with fail;go_ret;refine⟨⟨_,rfl,fun h=>?_,fun h=>?_⟩,_,by rw[World.drewN_drewN,World.drewN_drewN]⟩
     ·have:=of_decide_eq_true h;exact⟨i,h0,hz.out,.inr (by rw[hsb];omega)⟩
     ·have:=of_decide_eq_false h;exact .inr ⟨i,h0,by omega,fun j hj=>(hz.out j hj).2,by rw[hsb];omega⟩
  ·obtain rfl:i=s.size:=by omega
   have i1:decide ((s.size:Int)<(s.size:Int))=false:=dF (by omega);have i1':decide (s.size<s.size)=false:=dF (by omega);go_wp2_with fail;go_ret;exact⟨⟨false,rfl,(fun h=>by cases h),fun _=> .inl hz.out⟩,m,rfl⟩
theorem qrc (D:Nat) (g:Nat→Nat) (nd:Nat) (dn dp:Int) (ng tr:Bool) (s:ByteArray) (w:World) (h:qaI w D g dn dp ng tr) (hn:nd≤800) (hs:s.size≤1000) (hg:qdm g nd) (hd:qdm (sb s) s.size) (h5:s.size=0∨48<sb s (s.size - 1)):
 Calls Tryz.prog 306 #[.slice (some ⟨D,0,none⟩) nd 800,.string s] w fun e w'=>e= .returned (.bool (decide (num (ext g nd) s.size<num (sb s) s.size)))∧ ∃n,w'=w.drewN n:=by
 refine(ql2 D g nd dn dp ng tr s w h hn hs).mono ?_;rintro e w' ⟨⟨b,rfl,h1,h2⟩,h3⟩;refine⟨?_,h3⟩
 cases b with
 |true=>rw[dT (qp6 hg hd h5 (h1 rfl))]
 |false=>rw[dF (Nat.not_lt.2 (qoH hg hd (h2 rfl)))]
end Go.Proofs.YtdeimnnpcfncpaaGreatDoor
