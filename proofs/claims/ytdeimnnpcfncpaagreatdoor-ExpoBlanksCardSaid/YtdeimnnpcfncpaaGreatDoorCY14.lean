/- Parts of the proof: N1 Sort HA HB HC Shelf3. -/
import Derived.Shelf.SlSortCmp.WholeK
import Derived.Shelf.SlicesE.Clone
import Derived.Deep.Cut
import Derived.RegionTactic
import Derived.ChangeAlike
import Derived.Carry
import Derived.OneCell
import Derived.Shelf.Strings.LastIndex
import Derived.Shelf.Strings.LastIndexAll
import Derived.Shelf.Strings.MapAny
import Derived.Ground.PaProg
import Derived.Shelf.Path.Small
import Derived.Test.YtdeimnnpcfncpaaGreatDoorCY09
set_option linter.unusedVariables false
set_option linter.unusedSimpArgs false
set_option maxRecDepth 100000
set_option maxHeartbeats 64000000
section
namespace Go.Proofs.YtdeimnnpcfncpaaGreatDoor
open Go Ieee
theorem qqK:INF=9218868437227405312:=rfl
theorem qsR (v:Nat):qdU v=false↔v%9223372036854775808≤INF:=by
 unfold qdU;rw[decide_eq_false_iff_not];omega
theorem qsP (v:Nat):qdU v=true↔INF<v%9223372036854775808:=by
 unfold qdU;rw[decide_eq_true_iff]
theorem qp4 (v:Nat) (_:v<18446744073709551616):kindN v=4↔qdU v=true:=by
 rw[qsP,qqK];unfold kindN
 by_cases h1:v/4503599627370496%2048=2047
 ·rw[if_pos h1]
  by_cases h2:v%4503599627370496=0
  ·rw[if_pos h2];constructor<;>intro h<;>omega
  ·rw[if_neg h2];constructor<;>intro h<;>omega
 ·rw[if_neg h1];constructor
  ·intro h;exfalso;revert h
   split
   ·decide
   ·split<;>decide
  ·intro h;omega
end Go.Proofs.YtdeimnnpcfncpaaGreatDoor
end
section
namespace Go.Proofs.YtdeimnnpcfncpaaGreatDoor
open Go.Shelf
def Tryz.sortLb_ren:Go.Shelf.Ren:=⟨fun|6=>101|15=>166|14=>165|28=>221|29=>222|20=>213|21=>214|22=>215|23=>216|24=>217|25=>218|26=>219|27=>220|46=>251|47=>252|48=>253|49=>254|50=>255|57=>270|n=>n,fun|22=>31|24=>44|25=>162|3=>3|39=>86|0=>0|53=>172|55=>24|4=>4|46=>267|45=>266|50=>126|5=>5|9=>9|66=>301|70=>305|76=>319|77=>247|n=>n,fun|n=>n⟩
theorem Tryz.sortLb:Go.Proofs.SlLaysF0.n6 Tryz.prog Tryz.sortLb_ren:={
 mixed:=by kernel_rfl
 f6:=⟨Tryz.f101.name,by decide,Tryz.func101.trans (congrArg some (by kernel_rfl))⟩
 f14:=⟨Tryz.f165.name,by decide,Tryz.func165.trans (congrArg some (by kernel_rfl))⟩
 f15:=Tryz.func166.trans (congrArg some (by kernel_rfl))
 f20:=⟨Tryz.f213.name,by decide,Tryz.func213.trans (congrArg some (by kernel_rfl))⟩
 f21:=⟨Tryz.f214.name,by decide,Tryz.func214.trans (congrArg some (by kernel_rfl))⟩
 f22:=⟨Tryz.f215.name,by decide,Tryz.func215.trans (congrArg some (by kernel_rfl))⟩
 f23:=⟨Tryz.f216.name,by decide,Tryz.func216.trans (congrArg some (by kernel_rfl))⟩
 f24:=⟨Tryz.f217.name,by decide,Tryz.func217.trans (congrArg some (by kernel_rfl))⟩
 f25:=⟨Tryz.f218.name,by decide,Tryz.func218.trans (congrArg some (by kernel_rfl))⟩
 f26:=⟨Tryz.f219.name,by decide,Tryz.func219.trans (congrArg some (by kernel_rfl))⟩
 f27:=⟨Tryz.f220.name,by decide,Tryz.func220.trans (congrArg some (by kernel_rfl))⟩
 f28:=Tryz.func221.trans (congrArg some (by kernel_rfl))
 f29:=Tryz.func222.trans (congrArg some (by kernel_rfl))
 f46:=⟨Tryz.f251.name,by decide,Tryz.func251.trans (congrArg some (by kernel_rfl))⟩
 f47:=Tryz.func252.trans (congrArg some (by kernel_rfl))
 f48:=Tryz.func253.trans (congrArg some (by kernel_rfl))
 f49:=⟨Tryz.f254.name,by decide,Tryz.func254.trans (congrArg some (by kernel_rfl))⟩
 f50:=⟨Tryz.f255.name,by decide,Tryz.func255.trans (congrArg some (by kernel_rfl))⟩
 f57:=⟨Tryz.f270.name,by decide,Tryz.func270.trans (congrArg some (by kernel_rfl))⟩
 t0:=Tryz.underlying0
 a0:=Tryz.isAgg0
 z0:=Tryz.sizeOf0
 v0:=Tryz.zeroValue0
 t3:=Tryz.underlying3
 a3:=Tryz.isAgg3
 z3:=Tryz.sizeOf3
 v3:=Tryz.zeroValue3
 t4:=Tryz.underlying4
 a4:=Tryz.isAgg4
 z4:=Tryz.sizeOf4
 v4:=Tryz.zeroValue4
 t5:=Tryz.underlying5
 a5:=Tryz.isAgg5
 z5:=Tryz.sizeOf5
 v5:=Tryz.zeroValue5
 t9:=Tryz.underlying9
 a9:=Tryz.isAgg9
 z9:=Tryz.sizeOf9
 v9:=Tryz.zeroValue9
 t22:=Tryz.underlying31
 a22:=Tryz.isAgg31
 z22:=Tryz.sizeOf31
 v22:=Tryz.zeroValue31
 t25:=Tryz.underlying162
 a25:=Tryz.isAgg162
 z25:=Tryz.sizeOf162
 v25:=Tryz.zeroValue162
 t39:=Tryz.underlying86
 a39:=Tryz.isAgg86
 z39:=Tryz.sizeOf86
 v39:=Tryz.zeroValue86
 t45:=Tryz.underlying266
 a45:=Tryz.isAgg266
 z45:=Tryz.sizeOf266
 v45:=Tryz.zeroValue266
 t46:=Tryz.underlying267
 a46:=Tryz.isAgg267
 z46:=Tryz.sizeOf267
 v46:=Tryz.zeroValue267
 t50:=Tryz.underlying126
 a50:=Tryz.isAgg126
 z50:=Tryz.sizeOf126
 v50:=Tryz.zeroValue126
 t53:=Tryz.underlying172
 a53:=Tryz.isAgg172
 z53:=Tryz.sizeOf172
 v53:=Tryz.zeroValue172
 t55:=Tryz.underlying24
 a55:=Tryz.isAgg24
 z55:=Tryz.sizeOf24
 v55:=Tryz.zeroValue24
 t66:=Tryz.underlying301
 a66:=Tryz.isAgg301
 z66:=Tryz.sizeOf301
 v66:=Tryz.zeroValue301
 t70:=Tryz.underlying305
 a70:=Tryz.isAgg305
 z70:=Tryz.sizeOf305
 v70:=Tryz.zeroValue305
 t76:=Tryz.underlying319
 a76:=Tryz.isAgg319
 z76:=Tryz.sizeOf319
 v76:=Tryz.zeroValue319
 t77:=Tryz.underlying247
 a77:=Tryz.isAgg247
 z77:=Tryz.sizeOf247
 v77:=Tryz.zeroValue247}
def Tryz.cloneLb_ren:Go.Shelf.Ren:=⟨fun|41=>100|n=>n,fun|22=>31|23=>44|4=>4|n=>n,fun|n=>n⟩
theorem Tryz.cloneLb:Go.Proofs.SlLaysE0.n41 Tryz.prog Tryz.cloneLb_ren:={
 mixed:=by kernel_rfl
 f41:=⟨Tryz.f100.name,by decide,Tryz.func100.trans (congrArg some (by kernel_rfl))⟩
 t4:=Tryz.underlying4
 a4:=Tryz.isAgg4
 z4:=Tryz.sizeOf4
 v4:=Tryz.zeroValue4
 t22:=Tryz.underlying31
 a22:=Tryz.isAgg31
 z22:=Tryz.sizeOf31
 v22:=Tryz.zeroValue31}
end Go.Proofs.YtdeimnnpcfncpaaGreatDoor
end
section
namespace Go.Proofs.YtdeimnnpcfncpaaGreatDoor
open Go Go.RowKit
structure qaK (w:World) (D:Nat) (g:Nat→Nat) (nd dp:Int) (ng tr:Bool):Prop where
 ex: ∃cur:Array Value,w.heap[D]?=some (.cells cur 341 (0,0))∧(∀i,i<800→cur[i]?=some (.int .u8 (g i:Int)))∧cur[800]?=some (.int .i64 nd)∧cur[801]?=some (.int .i64 dp)∧cur[802]?=some (.bool ng)∧cur[803]?=some (.bool tr)
def upd (g:Nat→Nat) (i x:Nat):Nat→Nat:=fun j=>if j=i then x else g j
theorem qeA (g:Nat→Nat) (i x:Nat):upd g i x i=x:=if_pos rfl
theorem upd_ne (g:Nat→Nat) {i j:Nat} (x:Nat) (h:j≠i):upd g i x j=g j:=if_neg h
theorem qcE {w:World} {D:Nat} {cur:Array Value} {t:TypeId} (h:w.heap[D]?=some (.cells cur t (0,0))) (i:Nat):w.cell? ⟨D,i,none⟩=cur[i]?:=by
 unfold World.cell?;rw[h];rfl
theorem qaK.cell {w:World} {D:Nat} {g:Nat→Nat} {nd dp:Int} {ng tr:Bool} (h:qaK w D g nd dp ng tr) (i:Nat) (hi:i<800):w.cell? ⟨D,i,none⟩=some (.int .u8 (g i:Int)):=by
 obtain⟨cur,h,h1,_⟩:=h.ex;rw[qcE h];exact h1 i hi
theorem qaK.nd {w:World} {D:Nat} {g:Nat→Nat} {nd dp:Int} {ng tr:Bool} (h:qaK w D g nd dp ng tr):w.cell? ⟨D,800,none⟩=some (.int .i64 nd):=by
 obtain⟨cur,h,_,h1,_⟩:=h.ex;rw[qcE h];exact h1
theorem qaK.dp {w:World} {D:Nat} {g:Nat→Nat} {nd dp:Int} {ng tr:Bool} (h:qaK w D g nd dp ng tr):w.cell? ⟨D,801,none⟩=some (.int .i64 dp):=by
 obtain⟨cur,h,_,_,h1,_⟩:=h.ex;rw[qcE h];exact h1
theorem qaK.ng {w:World} {D:Nat} {g:Nat→Nat} {nd dp:Int} {ng tr:Bool} (h:qaK w D g nd dp ng tr):w.cell? ⟨D,802,none⟩=some (.bool ng):=by
 obtain⟨cur,h,_,_,_,h1,_⟩:=h.ex;rw[qcE h];exact h1
theorem qaK.tr {w:World} {D:Nat} {g:Nat→Nat} {nd dp:Int} {ng tr:Bool} (h:qaK w D g nd dp ng tr):w.cell? ⟨D,803,none⟩=some (.bool tr):=by
 obtain⟨cur,h,_,_,_,_,h1⟩:=h.ex;rw[qcE h];exact h1
theorem qaK.fz {w:World} {D:Nat} {g:Nat→Nat} {nd dp:Int} {ng tr:Bool} (h:qaK w D g nd dp ng tr) (i:Nat):w.frozen? ⟨D,i,none⟩=false:=by
 obtain⟨cur,h,_⟩:=h.ex;unfold World.frozen?;simp only[h];simp
theorem qaK.oth {w w':World} {D:Nat} {g:Nat→Nat} {nd dp:Int} {ng tr:Bool} (h:qaK w D g nd dp ng tr) (e:w'.heap[D]?=w.heap[D]?):qaK w' D g nd dp ng tr:=by
 obtain⟨cur,h,h1⟩:=h.ex;exact⟨cur,e.trans h,h1⟩
theorem qaK.drew {w:World} {D:Nat} {g:Nat→Nat} {nd dp:Int} {ng tr:Bool} (h:qaK w D g nd dp ng tr) (n:Nat):qaK (w.drewN n) D g nd dp ng tr:=h.oth rfl
theorem qdW {w:World} {D:Nat} {cur:Array Value} {t:TypeId} (h:w.heap[D]?=some (.cells cur t (0,0))) (i:Nat) (u:Value):(w.setCell ⟨D,i,none⟩ u).heap[D]?=some (.cells (cur.setIfInBounds i u) t (0,0)):=by
 simp[World.setCell,Array.getElem?_modify,h]
theorem qaU {cur:Array Value} {i j:Nat} (u:Value) (h:i≠j):(cur.setIfInBounds i u)[j]?=cur[j]?:=Array.getElem?_setIfInBounds_ne h
theorem qgw {cur:Array Value} {i:Nat} {v:Value} (u:Value) (h:cur[i]?=some v):(cur.setIfInBounds i u)[i]?=some u:=by
 have:i<cur.size:=by
  rcases Nat.lt_or_ge i cur.size with h1|h1
  ·exact h1
  ·rw[Array.getElem?_eq_none h1] at h;cases h
 exact Array.getElem?_setIfInBounds_self_of_lt this
theorem qaK.setD {w:World} {D:Nat} {g:Nat→Nat} {nd dp:Int} {ng tr:Bool} (h:qaK w D g nd dp ng tr) (i x:Nat) (hi:i<800):qaK (w.setCell ⟨D,i,none⟩ (.int .u8 (x:Int))) D (upd g i x) nd dp ng tr:=by
 obtain⟨cur,h,h1,h2,h3,h4,h5⟩:=h.ex;refine⟨_,qdW h i _,fun j hj=>?_,?_,?_,?_,?_⟩
 ·by_cases e:j=i
  ·subst e;rw[qeA,qgw _ (h1 j hj)]
  ·rw[upd_ne g x e,qaU _ (Ne.symm e)];exact h1 j hj
 ·rw[qaU _ (by omega)];exact h2
 ·rw[qaU _ (by omega)];exact h3
 ·rw[qaU _ (by omega)];exact h4
 ·rw[qaU _ (by omega)];exact h5
theorem qaK.setN {w:World} {D:Nat} {g:Nat→Nat} {nd dp:Int} {ng tr:Bool} (h:qaK w D g nd dp ng tr) (x:Int):qaK (w.setCell ⟨D,800,none⟩ (.int .i64 x)) D g x dp ng tr:=by
 obtain⟨cur,h,h1,h2,h3,h4,h5⟩:=h.ex;refine⟨_,qdW h 800 _,fun j hj=>?_,qgw _ h2,?_,?_,?_⟩
 ·rw[qaU _ (by omega)];exact h1 j hj
 ·rw[qaU _ (by omega)];exact h3
 ·rw[qaU _ (by omega)];exact h4
 ·rw[qaU _ (by omega)];exact h5
theorem qaK.setP {w:World} {D:Nat} {g:Nat→Nat} {nd dp:Int} {ng tr:Bool} (h:qaK w D g nd dp ng tr) (x:Int):qaK (w.setCell ⟨D,801,none⟩ (.int .i64 x)) D g nd x ng tr:=by
 obtain⟨cur,h,h1,h2,h3,h4,h5⟩:=h.ex;refine⟨_,qdW h 801 _,fun j hj=>?_,?_,qgw _ h3,?_,?_⟩
 ·rw[qaU _ (by omega)];exact h1 j hj
 ·rw[qaU _ (by omega)];exact h2
 ·rw[qaU _ (by omega)];exact h4
 ·rw[qaU _ (by omega)];exact h5
theorem qaK.setG {w:World} {D:Nat} {g:Nat→Nat} {nd dp:Int} {ng tr:Bool} (h:qaK w D g nd dp ng tr) (x:Bool):qaK (w.setCell ⟨D,802,none⟩ (.bool x)) D g nd dp x tr:=by
 obtain⟨cur,h,h1,h2,h3,h4,h5⟩:=h.ex;refine⟨_,qdW h 802 _,fun j hj=>?_,?_,?_,qgw _ h4,?_⟩
 ·rw[qaU _ (by omega)];exact h1 j hj
 ·rw[qaU _ (by omega)];exact h2
 ·rw[qaU _ (by omega)];exact h3
 ·rw[qaU _ (by omega)];exact h5
theorem qaK.setT {w:World} {D:Nat} {g:Nat→Nat} {nd dp:Int} {ng tr:Bool} (h:qaK w D g nd dp ng tr) (x:Bool):qaK (w.setCell ⟨D,803,none⟩ (.bool x)) D g nd dp ng x:=by
 obtain⟨cur,h,h1,h2,h3,h4,h5⟩:=h.ex;refine⟨_,qdW h 803 _,fun j hj=>?_,?_,?_,?_,qgw _ h5⟩
 ·rw[qaU _ (by omega)];exact h1 j hj
 ·rw[qaU _ (by omega)];exact h2
 ·rw[qaU _ (by omega)];exact h3
 ·rw[qaU _ (by omega)];exact h4
theorem qaK.congr {w:World} {D:Nat} {g h:Nat→Nat} {nd dp:Int} {ng tr:Bool} (H:qaK w D g nd dp ng tr) (e: ∀i,i<800→g i=h i):qaK w D h nd dp ng tr:=by
 obtain⟨cur,a,h1,h2⟩:=H.ex;exact⟨cur,a,fun i hi=>by rw[←e i hi];exact h1 i hi,h2⟩
theorem qaf {B:Nat} {a w:World} (h:Below B a w) (n:Nat):Below B a (w.drewN n):=h.trans ⟨rfl,rfl,rfl,Nat.le_refl _,fun _ _=>rfl⟩
theorem qdM (B D:Nat) (g:Nat→Nat) (nd:Nat) (dp:Int) (ng tr:Bool) (w:World) (h:qaK w D g nd dp ng tr) (hn:nd≤800) (hB:B≤D):
 Calls Tryz.prog 307 #[.pointer (some ⟨D,0,none⟩)] w fun e w'=>e= .returned (.tuple #[])∧(∃n:Nat,n≤nd∧(∀i,n≤i→i<nd→g i=48)∧(n=0∨g (n - 1)≠48)∧qaK w' D g n (if n=0 then 0 else dp) ng tr)∧Below B w w':=by
 have H0:=Lh h;clear h;go_enter Tryz.func307,Tryz.ntmps307;go_wp2_with fail;go_loopg [] (nd+1) (fun gk wx=> ∃n:Nat,n<gk∧n≤nd∧Hid (∀i,n≤i→i<nd→g i=48)∧Hid (qaK wx D g n dp ng tr)∧Hid (Below B w wx))
 case atStart=>exact⟨nd,by omega,by omega,Lh (fun i h1 h2=>by omega),H0,Lh (Below.refl _ _)⟩
 case round=>
  obtain⟨n,hng,hnn,hz,hD,hb⟩:=hrel;have c1:=hD.out.nd;have p1:=hD.out.dp;have f1:=hD.out.fz 800;have f2:=hD.out.fz 801
  by_cases h0:n=0
  ·subst h0;have i1:decide ((0:Int)<((0:Nat):Int))=false:=rfl;go_upto_region 0 with (fail)
   go_quiet (fail);go_wp2_with fail;go_end0;refine⟨rfl,⟨0,by omega,hz.out,.inl rfl,?_⟩,?_⟩
   ·rw[if_pos rfl];exact(hD.out.drew _).setP 0
   ·exact(qaf hb.out _).setCell hB _
  ·obtain⟨m,rfl⟩: ∃m,n=m+1:=⟨n - 1,by omega⟩;have i1:decide ((0:Int)<((m+1:Nat):Int))=true:=dT (by omega);have c2:=hD.out.cell m (by omega);have e1:((m+1:Nat):Int) - 1=(m:Int):=by omega
   by_cases h8:g m=48
   ·have i2:(((g m:Nat):Int)==48)=true:=by rw[h8];rfl
    go_upto_region 0 with (fail)
    go_quiet (fail);go_wp2_with fail;go_roundg (gk - 1)
    case measure=>omega
    case rel=>
     refine⟨m,by omega,by omega,Lh (fun i h1 h2=>?_),Lh ((hD.out.drew _).setN _),Lh ((qaf hb.out _).setCell hB _)⟩
     by_cases e:i=m
     ·rw[e];exact h8
     ·exact hz.out i (by omega) h2
   ·have i2:(((g m:Nat):Int)==48)=false:=by
     rw[beq_eq_false_iff_ne];omega
    go_upto_region 0 with (fail)
    go_quiet (fail);have i3:(((m+1:Nat):Int)==0)=false:=by rw[beq_eq_false_iff_ne];omega
    go_wp2_with fail;go_end0;refine⟨rfl,⟨m+1,hnn,hz.out,.inr h8,?_⟩,qaf hb.out _⟩;rw[if_neg (by omega)];exact hD.out.drew _
theorem qmN (D:Nat) (g:Nat→Nat) (nd:Nat) (dn dp:Int) (ng tr:Bool) (s:ByteArray) (w:World) (h:qaK w D g dn dp ng tr) (hn:nd≤800) (hs:s.size≤1000):
 Calls Tryz.prog 306 #[.slice (some ⟨D,0,none⟩) nd 800,.string s] w fun e w'=>(∃b,e= .returned (.bool b)∧(b=true→Pfx g nd (sb s) s.size)∧(b=false→Nfx g nd (sb s) s.size))∧ ∃n,w'=w.drewN n:=by
 have H0:=Lh h;clear h;go_enter Tryz.func306,Tryz.ntmps306;go_wp2_with fail;go_loopg [5] (s.size+1) (fun gk s5 wx=> ∃(i m:Nat),s.size - i<gk∧i≤s.size∧s5= .int .i64 (i:Int)∧Hid (∀j,j<i→j<nd∧g j=sb s j)∧wx=w.drewN m)
 case atStart=>exact⟨0,0,by omega,by omega,rfl,Lh (fun j hj=>by omega),rfl⟩
 case round=>
  obtain⟨i,m,hig,hin,rfl,hz,rfl⟩:=hrel;have hD:=H0
  by_cases h0:i<s.size
  ·have i1:decide ((i:Int)<(s.size:Int))=true:=dT (by omega);have i1':decide (i<s.size)=true:=dT h0
   by_cases h1:nd≤i
   ·have i2:decide ((nd:Int)≤(i:Int))=true:=dT (by omega);have i2':decide (nd≤i)=true:=dT h1;go_wp2_with fail;go_ret;exact⟨⟨true,rfl,fun _=>⟨i,h0,hz.out,.inl h1⟩,fun h=>by cases h⟩,m,rfl⟩
   ·have i2:decide ((nd:Int)≤(i:Int))=false:=dF (by omega);have i2':decide (nd≤i)=false:=dF h1;have i3':decide (i<nd)=true:=dT (by omega);have c2:=hD.out.cell i (by omega);obtain⟨c,hc,hB⟩:=qdd s i h0
    by_cases h2:g i=c.toNat
    ·have i4:((g i:Int)==(c.toNat:Int))=true:=by rw[h2];simp
     go_upto_region 6 with (fail)
     go_quiet (fail);go_wp2_with fail
     have hz2: ∀j,j<i+1→j<nd∧g j=sb s j:=fun j hj=>by
      by_cases e:j=i
      ·subst e;exact⟨by omega,by rw[h2];unfold sb;rw[hc.out]⟩
      ·exact hz.out j (by omega)
     go_roundg (gk - 1)
     case measure=>omega
     case rel=>exact⟨i+1,_,by omega,by omega,by go_num,Lh hz2,rfl⟩
    ·have i4:((g i:Int)==(c.toNat:Int))=false:=by rw[beq_eq_false_iff_ne];omega
     go_upto_region 6 with (fail)
     go_quiet (fail);go_upto_region 7 with (fail)
     go_quiet (fail);have hsb:sb s i=c.toNat:=by unfold sb;rw[hc.out]
     go_wp2_with fail;go_ret;refine⟨⟨_,rfl,fun h=>?_,fun h=>?_⟩,_,by rw[World.drewN_drewN,World.drewN_drewN]⟩
     ·have:=of_decide_eq_true h;exact⟨i,h0,hz.out,.inr (by rw[hsb];omega)⟩
     ·have:=of_decide_eq_false h;exact .inr ⟨i,h0,by omega,fun j hj=>(hz.out j hj).2,by rw[hsb];omega⟩
  ·obtain rfl:i=s.size:=by omega
   have i1:decide ((s.size:Int)<(s.size:Int))=false:=dF (by omega);have i1':decide (s.size<s.size)=false:=dF (by omega);go_wp2_with fail;go_ret;exact⟨⟨false,rfl,(fun h=>by cases h),fun _=> .inl hz.out⟩,m,rfl⟩
theorem qrQ (D:Nat) (g:Nat→Nat) (nd:Nat) (dn dp:Int) (ng tr:Bool) (s:ByteArray) (w:World) (h:qaK w D g dn dp ng tr) (hn:nd≤800) (hs:s.size≤1000) (hg:qdm g nd) (hd:qdm (sb s) s.size) (h5:s.size=0∨48<sb s (s.size - 1)):
 Calls Tryz.prog 306 #[.slice (some ⟨D,0,none⟩) nd 800,.string s] w fun e w'=>e= .returned (.bool (decide (num (ext g nd) s.size<num (sb s) s.size)))∧ ∃n,w'=w.drewN n:=by
 refine(qmN D g nd dn dp ng tr s w h hn hs).mono ?_;rintro e w' ⟨⟨b,rfl,h1,h2⟩,h3⟩;refine⟨?_,h3⟩
 cases b with
 |true=>rw[dT (qp6 hg hd h5 (h1 rfl))]
 |false=>rw[dF (Nat.not_lt.2 (qqv hg hd (h2 rfl)))]
end Go.Proofs.YtdeimnnpcfncpaaGreatDoor
end
section
namespace Go.Proofs.YtdeimnnpcfncpaaGreatDoor
open Go.Shelf
def Tryz.lays148_ren:Go.Shelf.Ren:=⟨fun|148=>26|222=>67|223=>68|269=>124|n=>n,fun|9=>9|3=>3|4=>4|5=>5|146=>173|51=>172|46=>86|n=>n,fun|n=>n⟩
theorem Tryz.lays148:Go.Proofs.Lays.n148 Tryz.prog Tryz.lays148_ren:={
 mixed:=by kernel_rfl
 f148:=Tryz.func26.trans (congrArg some (by kernel_rfl))
 f222:=Tryz.func67.trans (congrArg some (by kernel_rfl))
 f223:=Tryz.func68.trans (congrArg some (by kernel_rfl))
 f269:=Tryz.func124.trans (congrArg some (by kernel_rfl))
 t3:=Tryz.underlying3
 a3:=Tryz.isAgg3
 z3:=Tryz.sizeOf3
 v3:=Tryz.zeroValue3
 t4:=Tryz.underlying4
 a4:=Tryz.isAgg4
 z4:=Tryz.sizeOf4
 v4:=Tryz.zeroValue4
 t5:=Tryz.underlying5
 a5:=Tryz.isAgg5
 z5:=Tryz.sizeOf5
 v5:=Tryz.zeroValue5
 t9:=Tryz.underlying9
 a9:=Tryz.isAgg9
 z9:=Tryz.sizeOf9
 v9:=Tryz.zeroValue9
 t46:=Tryz.underlying86
 a46:=Tryz.isAgg86
 z46:=Tryz.sizeOf86
 v46:=Tryz.zeroValue86
 t51:=Tryz.underlying172
 a51:=Tryz.isAgg172
 z51:=Tryz.sizeOf172
 v51:=Tryz.zeroValue172
 t146:=Tryz.underlying173
 a146:=Tryz.isAgg173
 z146:=Tryz.sizeOf173
 v146:=Tryz.zeroValue173}
open Go.RowKit Go.Lib in
theorem Tryz.strings_LastIndex_one (s sub:ByteArray) (h1:sub.size=1) (hs:s.size<4611686018427387904) (w:World):
 Calls Tryz.prog 26 #[.string s,.string sub] w fun e w'=>e= .returned (.int .i64 (Lib.lastIndexByte s ((sub[0]'(by omega)).toNat:Int)))∧w'=w:=Any.strings_LastIndex_one Tryz.lays148 s sub h1 hs w
end Go.Proofs.YtdeimnnpcfncpaaGreatDoor
end
