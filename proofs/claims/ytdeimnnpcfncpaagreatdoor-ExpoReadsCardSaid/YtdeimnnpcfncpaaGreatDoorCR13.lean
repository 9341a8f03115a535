/- Parts of the proof: N1 HA HB HC LK20. -/
import Derived.Deep.Cut
import Derived.RegionTactic
import Derived.ChangeAlike
import Derived.Carry
import Derived.OneCell
import Derived.Test.YtdeimnnpcfncpaaGreatDoorCR11
set_option linter.unusedVariables false
set_option linter.unusedSimpArgs false
set_option maxRecDepth 100000
set_option maxHeartbeats 64000000
section
namespace Go.Proofs.YtdeimnnpcfncpaaGreatDoor
open Go Ieee
theorem qul:INF=9218868437227405312:=rfl
theorem qvM (v:Nat):qfo v=false↔v%9223372036854775808≤INF:=by
 unfold qfo;rw[decide_eq_false_iff_not];omega
theorem qvP (v:Nat):qfo v=true↔INF<v%9223372036854775808:=by
 unfold qfo;rw[decide_eq_true_iff]
theorem qtp (v:Nat) (_:v<18446744073709551616):kindN v=4↔qfo v=true:=by
 rw[qvP,qul];unfold kindN
 by_cases h1:v/4503599627370496%2048=2047
 ·rw[if_pos h1]
  by_cases h2:v%4503599627370496=0
  ·rw[if_pos h2];constructor<;>intro h<;>omega
  ·rw[if_neg h2];constructor<;>intro h<;>omega
 ·rw[if_neg h1];constructor
  ·intro h;exfalso;revert h
   split
   ·decide
   ·split<;>decide
  ·intro h;omega
end Go.Proofs.YtdeimnnpcfncpaaGreatDoor
end
section
namespace Go.Proofs.YtdeimnnpcfncpaaGreatDoor
open Go Go.RowKit
structure qaM (w:World) (D:Nat) (g:Nat→Nat) (nd dp:Int) (ng tr:Bool):Prop where
 ex: ∃cur:Array Value,w.heap[D]?=some (.cells cur 341 (0,0))∧(∀i,i<800→cur[i]?=some (.int .u8 (g i:Int)))∧cur[800]?=some (.int .i64 nd)∧cur[801]?=some (.int .i64 dp)∧cur[802]?=some (.bool ng)∧cur[803]?=some (.bool tr)
def upd (g:Nat→Nat) (i x:Nat):Nat→Nat:=fun j=>if j=i then x else g j
theorem qfu (g:Nat→Nat) (i x:Nat):upd g i x i=x:=if_pos rfl
theorem upd_ne (g:Nat→Nat) {i j:Nat} (x:Nat) (h:j≠i):upd g i x j=g j:=if_neg h
theorem qbp {w:World} {D:Nat} {cur:Array Value} {t:TypeId} (h:w.heap[D]?=some (.cells cur t (0,0))) (i:Nat):w.cell? ⟨D,i,none⟩=cur[i]?:=by
 unfold World.cell?;rw[h];rfl
theorem qaM.cell {w:World} {D:Nat} {g:Nat→Nat} {nd dp:Int} {ng tr:Bool} (h:qaM w D g nd dp ng tr) (i:Nat) (hi:i<800):w.cell? ⟨D,i,none⟩=some (.int .u8 (g i:Int)):=by
 obtain⟨cur,h,h1,_⟩:=h.ex;rw[qbp h];exact h1 i hi
theorem qaM.nd {w:World} {D:Nat} {g:Nat→Nat} {nd dp:Int} {ng tr:Bool} (h:qaM w D g nd dp ng tr):w.cell? ⟨D,800,none⟩=some (.int .i64 nd):=by
 obtain⟨cur,h,_,h1,_⟩:=h.ex;rw[qbp h];exact h1
theorem qaM.dp {w:World} {D:Nat} {g:Nat→Nat} {nd dp:Int} {ng tr:Bool} (h:qaM w D g nd dp ng tr):w.cell? ⟨D,801,none⟩=some (.int .i64 dp):=by
 obtain⟨cur,h,_,_,h1,_⟩:=h.ex;rw[qbp h];exact h1
theorem qaM.ng {w:World} {D:Nat} {g:Nat→Nat} {nd dp:Int} {ng tr:Bool} (h:qaM w D g nd dp ng tr):w.cell? ⟨D,802,none⟩=some (.bool ng):=by
 obtain⟨cur,h,_,_,_,h1,_⟩:=h.ex;rw[qbp h];exact h1
theorem qaM.tr {w:World} {D:Nat} {g:Nat→Nat} {nd dp:Int} {ng tr:Bool} (h:qaM w D g nd dp ng tr):w.cell? ⟨D,803,none⟩=some (.bool tr):=by
 obtain⟨cur,h,_,_,_,_,h1⟩:=h.ex;rw[qbp h];exact h1
theorem qaM.fz {w:World} {D:Nat} {g:Nat→Nat} {nd dp:Int} {ng tr:Bool} (h:qaM w D g nd dp ng tr) (i:Nat):w.frozen? ⟨D,i,none⟩=false:=by
 obtain⟨cur,h,_⟩:=h.ex;unfold World.frozen?;simp only[h];simp
theorem qaM.oth {w w':World} {D:Nat} {g:Nat→Nat} {nd dp:Int} {ng tr:Bool} (h:qaM w D g nd dp ng tr) (e:w'.heap[D]?=w.heap[D]?):qaM w' D g nd dp ng tr:=by
 obtain⟨cur,h,h1⟩:=h.ex;exact⟨cur,e.trans h,h1⟩
theorem qaM.drew {w:World} {D:Nat} {g:Nat→Nat} {nd dp:Int} {ng tr:Bool} (h:qaM w D g nd dp ng tr) (n:Nat):qaM (w.drewN n) D g nd dp ng tr:=h.oth rfl
theorem qb4 {w:World} {D:Nat} {cur:Array Value} {t:TypeId} (h:w.heap[D]?=some (.cells cur t (0,0))) (i:Nat) (u:Value):(w.setCell ⟨D,i,none⟩ u).heap[D]?=some (.cells (cur.setIfInBounds i u) t (0,0)):=by
 simp[World.setCell,Array.getElem?_modify,h]
theorem qaX {cur:Array Value} {i j:Nat} (u:Value) (h:i≠j):(cur.setIfInBounds i u)[j]?=cur[j]?:=Array.getElem?_setIfInBounds_ne h
theorem qhH {cur:Array Value} {i:Nat} {v:Value} (u:Value) (h:cur[i]?=some v):(cur.setIfInBounds i u)[i]?=some u:=by
 have:i<cur.size:=by
  rcases Nat.lt_or_ge i cur.size with h1|h1
  ·exact h1
  ·rw[Array.getElem?_eq_none h1] at h;cases h
 exact Array.getElem?_setIfInBounds_self_of_lt this
theorem qaM.setD {w:World} {D:Nat} {g:Nat→Nat} {nd dp:Int} {ng tr:Bool} (h:qaM w D g nd dp ng tr) (i x:Nat) (hi:i<800):qaM (w.setCell ⟨D,i,none⟩ (.int .u8 (x:Int))) D (upd g i x) nd dp ng tr:=by
 obtain⟨cur,h,h1,h2,h3,h4,h5⟩:=h.ex;refine⟨_,qb4 h i _,fun j hj=>?_,?_,?_,?_,?_⟩
 ·by_cases e:j=i
  ·subst e;rw[qfu,qhH _ (h1 j hj)]
  ·rw[upd_ne g x e,qaX _ (Ne.symm e)];exact h1 j hj
 ·rw[qaX _ (by omega)];exact h2
 ·rw[qaX _ (by omega)];exact h3
 ·rw[qaX _ (by omega)];exact h4
 ·rw[qaX _ (by omega)];exact h5
theorem qaM.setN {w:World} {D:Nat} {g:Nat→Nat} {nd dp:Int} {ng tr:Bool} (h:qaM w D g nd dp ng tr) (x:Int):qaM (w.setCell ⟨D,800,none⟩ (.int .i64 x)) D g x dp ng tr:=by
 obtain⟨cur,h,h1,h2,h3,h4,h5⟩:=h.ex;refine⟨_,qb4 h 800 _,fun j hj=>?_,qhH _ h2,?_,?_,?_⟩
 ·rw[qaX _ (by omega)];exact h1 j hj
 ·rw[qaX _ (by omega)];exact h3
 ·rw[qaX _ (by omega)];exact h4
 ·rw[qaX _ (by omega)];exact h5
theorem qaM.setP {w:World} {D:Nat} {g:Nat→Nat} {nd dp:Int} {ng tr:Bool} (h:qaM w D g nd dp ng tr) (x:Int):qaM (w.setCell ⟨D,801,none⟩ (.int .i64 x)) D g nd x ng tr:=by
 obtain⟨cur,h,h1,h2,h3,h4,h5⟩:=h.ex;refine⟨_,qb4 h 801 _,fun j hj=>?_,?_,qhH _ h3,?_,?_⟩
 ·rw[qaX _ (by omega)];exact h1 j hj
 ·rw[qaX _ (by omega)];exact h2
 ·rw[qaX _ (by omega)];exact h4
 ·rw[qaX _ (by omega)];exact h5
theorem qaM.setG {w:World} {D:Nat} {g:Nat→Nat} {nd dp:Int} {ng tr:Bool} (h:qaM w D g nd dp ng tr) (x:Bool):qaM (w.setCell ⟨D,802,none⟩ (.bool x)) D g nd dp x tr:=by
 obtain⟨cur,h,h1,h2,h3,h4,h5⟩:=h.ex;refine⟨_,qb4 h 802 _,fun j hj=>?_,?_,?_,qhH _ h4,?_⟩
 ·rw[qaX _ (by omega)];exact h1 j hj
 ·rw[qaX _ (by omega)];exact h2
 ·rw[qaX _ (by omega)];exact h3
 ·rw[qaX _ (by omega)];exact h5
theorem qaM.setT {w:World} {D:Nat} {g:Nat→Nat} {nd dp:Int} {ng tr:Bool} (h:qaM w D g nd dp ng tr) (x:Bool):qaM (w.setCell ⟨D,803,none⟩ (.bool x)) D g nd dp ng x:=by
 obtain⟨cur,h,h1,h2,h3,h4,h5⟩:=h.ex;refine⟨_,qb4 h 803 _,fun j hj=>?_,?_,?_,?_,qhH _ h5⟩
 ·rw[qaX _ (by omega)];exact h1 j hj
 ·rw[qaX _ (by omega)];exact h2
 ·rw[qaX _ (by omega)];exact h3
 ·rw[qaX _ (by omega)];exact h4
theorem qaM.congr {w:World} {D:Nat} {g h:Nat→Nat} {nd dp:Int} {ng tr:Bool} (H:qaM w D g nd dp ng tr) (e: ∀i,i<800→g i=h i):qaM w D h nd dp ng tr:=by
 obtain⟨cur,a,h1,h2⟩:=H.ex;exact⟨cur,a,fun i hi=>by rw[←e i hi];exact h1 i hi,h2⟩
theorem qac {B:Nat} {a w:World} (h:Below B a w) (n:Nat):Below B a (w.drewN n):=h.trans ⟨rfl,rfl,rfl,Nat.le_refl _,fun _ _=>rfl⟩
theorem qe9 (B D:Nat) (g:Nat→Nat) (nd:Nat) (dp:Int) (ng tr:Bool) (w:World) (h:qaM w D g nd dp ng tr) (hn:nd≤800) (hB:B≤D):
 Calls Tryz.prog 307 #[.pointer (some ⟨D,0,none⟩)] w fun e w'=>e= .returned (.tuple #[])∧(∃n:Nat,n≤nd∧(∀i,n≤i→i<nd→g i=48)∧(n=0∨g (n - 1)≠48)∧qaM w' D g n (if n=0 then 0 else dp) ng tr)∧Below B w w':=by
 have H0:=Lh h;clear h;go_enter Tryz.func307,Tryz.ntmps307;go_wp2_with fail;go_loopg [] (nd+1) (fun gk wx=> ∃n:Nat,n<gk∧n≤nd∧Hid (∀i,n≤i→i<nd→g i=48)∧Hid (qaM wx D g n dp ng tr)∧Hid (Below B w wx))
 case atStart=>exact⟨nd,by omega,by omega,Lh (fun i h1 h2=>by omega),H0,Lh (Below.refl _ _)⟩
 case round=>
  obtain⟨n,hng,hnn,hz,hD,hb⟩:=hrel;have c1:=hD.out.nd;have p1:=hD.out.dp;have f1:=hD.out.fz 800;have f2:=hD.out.fz 801
  by_cases h0:n=0
  ·subst h0;have i1:decide ((0:Int)<((0:Nat):Int))=false:=rfl;go_upto_region 0 with (fail)
   go_quiet (fail);go_wp2_with fail;go_end0;refine⟨rfl,⟨0,by omega,hz.out,.inl rfl,?_⟩,?_⟩
   ·rw[if_pos rfl];exact(hD.out.drew _).setP 0
   ·exact(qac hb.out _).setCell hB _
  ·obtain⟨m,rfl⟩: ∃m,n=m+1:=⟨n - 1,by omega⟩;have i1:decide ((0:Int)<((m+1:Nat):Int))=true:=dT (by omega);have c2:=hD.out.cell m (by omega);have e1:((m+1:Nat):Int) - 1=(m:Int):=by omega
   by_cases h8:g m=48
   ·have i2:(((g m:Nat):Int)==48)=true:=by rw[h8];rfl
    go_upto_region 0 with (fail)
    go_quiet (fail);go_wp2_with fail;go_roundg (gk - 1)
    case measure=>omega
    case rel=>
     refine⟨m,by omega,by omega,Lh (fun i h1 h2=>?_),Lh ((hD.out.drew _).setN _),Lh ((qac hb.out _).setCell hB _)⟩
     by_cases e:i=m
     ·rw[e];exact h8
     ·exact hz.out i (by omega) h2
   ·have i2:(((g m:Nat):Int)==48)=false:=by
     rw[beq_eq_false_iff_ne];omega
    go_upto_region 0 with (fail)
    go_quiet (fail);have i3:(((m+1:Nat):Int)==0)=false:=by rw[beq_eq_false_iff_ne];omega
    go_wp2_with fail;go_end0;refine⟨rfl,⟨m+1,hnn,hz.out,.inr h8,?_⟩,qac hb.out _⟩;rw[if_neg (by omega)];exact hD.out.drew _
theorem qn5 (D:Nat) (g:Nat→Nat) (nd:Nat) (dn dp:Int) (ng tr:Bool) (s:ByteArray) (w:World) (h:qaM w D g dn dp ng tr) (hn:nd≤800) (hs:s.size≤1000):
 Calls Tryz.prog 306 #[.slice (some ⟨D,0,none⟩) nd 800,.string s] w fun e w'=>(∃b,e= .returned (.bool b)∧(b=true→Pfx g nd (sb s) s.size)∧(b=false→Nfx g nd (sb s) s.size))∧ ∃n,w'=w.drewN n:=by
 have H0:=Lh h;clear h;go_enter Tryz.func306,Tryz.ntmps306;go_wp2_with fail;go_loopg [5] (s.size+1) (fun gk s5 wx=> ∃(i m:Nat),s.size - i<gk∧i≤s.size∧s5= .int .i64 (i:Int)∧Hid (∀j,j<i→j<nd∧g j=sb s j)∧wx=w.drewN m)
 case atStart=>exact⟨0,0,by omega,by omega,rfl,Lh (fun j hj=>by omega),rfl⟩
 case round=>
  obtain⟨i,m,hig,hin,rfl,hz,rfl⟩:=hrel;have hD:=H0
  by_cases h0:i<s.size
  ·have i1:decide ((i:Int)<(s.size:Int))=true:=dT (by omega);have i1':decide (i<s.size)=true:=dT h0
   by_cases h1:nd≤i
   ·have i2:decide ((nd:Int)≤(i:Int))=true:=dT (by omega);have i2':decide (nd≤i)=true:=dT h1;go_wp2_with fail;go_ret;exact⟨⟨true,rfl,fun _=>⟨i,h0,hz.out,.inl h1⟩,fun h=>by cases h⟩,m,rfl⟩
   ·have i2:decide ((nd:Int)≤(i:Int))=false:=dF (by omega);have i2':decide (nd≤i)=false:=dF h1;have i3':decide (i<nd)=true:=dT (by omega);have c2:=hD.out.cell i (by omega);obtain⟨c,hc,hB⟩:=qbG s i h0
    by_cases h2:g i=c.toNat
    ·have i4:((g i:Int)==(c.toNat:Int))=true:=by rw[h2];simp
     go_upto_region 6 with (fail)
     go_quiet (fail);go_wp2_with fail
     have hz2: ∀j,j<i+1→j<nd∧g j=sb s j:=fun j hj=>by
      by_cases e:j=i
      ·subst e;exact⟨by omega,by rw[h2];unfold sb;rw[hc.out]⟩
      ·exact hz.out j (by omega)
     go_roundg (gk - 1)
     case measure=>omega
     case rel=>exact⟨i+1,_,by omega,by omega,by go_num,Lh hz2,rfl⟩
    ·have i4:((g i:Int)==(c.toNat:Int))=false:=by rw[beq_eq_false_iff_ne];omega
     go_upto_region 6 with (fail)
     go_quiet (fail);go_upto_region 7 with (fail)
     go_quiet (fail);have hsb:sb s i=c.toNat:=by unfold sb;rw[hc.out]
     go_wp2_with fail;go_ret;refine⟨⟨_,rfl,fun h=>?_,fun h=>?_⟩,_,by rw[World.drewN_drewN,World.drewN_drewN]⟩
     ·have:=of_decide_eq_true h;exact⟨i,h0,hz.out,.inr (by rw[hsb];omega)⟩
     ·have:=of_decide_eq_false h;exact .inr ⟨i,h0,by omega,fun j hj=>(hz.out j hj).2,by rw[hsb];omega⟩
  ·obtain rfl:i=s.size:=by omega
   have i1:decide ((s.size:Int)<(s.size:Int))=false:=dF (by omega);have i1':decide (s.size<s.size)=false:=dF (by omega);go_wp2_with fail;go_ret;exact⟨⟨false,rfl,(fun h=>by cases h),fun _=> .inl hz.out⟩,m,rfl⟩
theorem qtU (D:Nat) (g:Nat→Nat) (nd:Nat) (dn dp:Int) (ng tr:Bool) (s:ByteArray) (w:World) (h:qaM w D g dn dp ng tr) (hn:nd≤800) (hs:s.size≤1000) (hg:qdS g nd) (hd:qdS (sb s) s.size) (h5:s.size=0∨48<sb s (s.size - 1)):
 Calls Tryz.prog 306 #[.slice (some ⟨D,0,none⟩) nd 800,.string s] w fun e w'=>e= .returned (.bool (decide (num (ext g nd) s.size<num (sb s) s.size)))∧ ∃n,w'=w.drewN n:=by
 refine(qn5 D g nd dn dp ng tr s w h hn hs).mono ?_;rintro e w' ⟨⟨b,rfl,h1,h2⟩,h3⟩;refine⟨?_,h3⟩
 cases b with
 |true=>rw[dT (qs0 hg hd h5 (h1 rfl))]
 |false=>rw[dF (Nat.not_lt.2 (qsR hg hd (h2 rfl)))]
end Go.Proofs.YtdeimnnpcfncpaaGreatDoor
end
section
namespace Go.Proofs.YtdeimnnpcfncpaaGreatDoor.L
open Go.RowKit
theorem qjt (s:ByteArray) (h:0<s.size):(s.data.toList.head?=some 45)↔byt s 0=45:=by
 unfold byt;have hl:0<s.data.toList.length:=by simpa using h
 generalize s.data.toList=l at hl
 cases l with
 |nil=>simp at hl
 |cons c r=>
  simp only[List.head?_cons,Option.some.injEq,List.getD_cons_zero];constructor
  ·rintro rfl;rfl
  ·intro e;apply UInt8.toNat_inj.1;show _=45;omega
theorem qiB (s:ByteArray) (i:Nat):(s.data.toList.getD i 0=48)↔byt s i=48:=by
 unfold byt;generalize s.data.toList.getD i 0=c;constructor
 ·rintro rfl;rfl
 ·intro e;apply UInt8.toNat_inj.1;show _=48;omega
theorem qmP (s:ByteArray) (i a:Nat) (h:i<s.size):qaA (s.data.toList.drop i) a=if 48≤byt s i∧byt s i≤57 then if 9223372036854775808<10*a+((byt s i).toNat - 48) then none else qaA (s.data.toList.drop (i+1)) (10*a+((byt s i).toNat - 48)) else none:=by
 have hl:i<s.data.toList.length:=by simpa using h
 rw[List.drop_eq_getElem_cons hl,qaA]
 have e:byt s i=((s.data.toList[i]).toNat:Int):=by
  unfold byt;rw[gZd,gZq hl,Option.getD_some]
 rw[e,Int.toNat_natCast];generalize s.data.toList[i]=c
 by_cases h1:48≤c.toNat∧c.toNat≤57
 ·have h2:(48:Int)≤c.toNat∧(c.toNat:Int)≤57:=by omega
  rw[if_pos h1,if_pos h2]
 ·have h2: ¬((48:Int)≤c.toNat∧(c.toNat:Int)≤57):=by omega
  rw[if_neg h1,if_neg h2]
theorem rnum_to (s:ByteArray) (hs:s.size≤65536) (x:Int) (e:Bool) (h:(match refN s.data.toList with|none=>((0:Int),false)|some v=>(v,true))=(x,e)) (w:World):
 Calls Tryz.prog 140 #[.string s] w fun r w'=>r= .returned (.tuple #[.int .i64 x,.bool e])∧w=w':=by
 obtain⟨k,hk⟩: ∃k:Nat,(if s.data.toList.head?=some 45 then 1 else 0)=k:=⟨_,rfl⟩;unfold refN at h;rw[hk] at h;simp only at h;have hz:s.data.toList.length=s.size:=by simp
 rw[hz] at h;replace h:=Lh h;replace hk:=Lh hk;replace hz:=Lh hz;go_enter Tryz.func140,Tryz.ntmps140;go_upto_region 2 with (fail)
 obtain⟨b,hb⟩: ∃b:Bool,Hid (k=if b then 1 else 0):=⟨decide (s.data.toList.head?=some 45),Lh (by rw[←hk.out];by_cases e:s.data.toList.head?=some 45<;>simp[e])⟩;go_cut [15] (fun s15 wx=>s15= .bool b∧w=wx)
 case first=>
  by_cases h0:0<s.size
  ·have t1:decide (0<(s.size:Int))=true:=dT (by omega);have hB:=qaV s 0 h0
   by_cases hm:byt s 0=45
   ·have hk':=hk.out;rw[if_pos ((qjt s h0).2 hm),hb.out] at hk';rw[hm] at hB;obtain rfl:b=true:=by cases b<;>simp at hk'⊢
    clear hk' hk hz h;go_wp2_with fail;go_meet;exact⟨rfl,rfl⟩
   ·have hk':=hk.out;rw[if_neg (fun e=>hm ((qjt s h0).1 e)),hb.out] at hk';obtain rfl:b=false:=by cases b<;>simp at hk'⊢
    obtain⟨c,hc⟩: ∃c,c=byt s 0:=⟨_,rfl⟩;rw[←hc] at hB hm;have s1:(c==45)=false:=by simpa using hm
    clear hc hm hk' hk hz h;go_wp2_with fail;go_meet;exact⟨rfl,rfl⟩
  ·have t1:decide (0<(s.size:Int))=false:=dF (by omega);have hk':=hk.out;have hnil:s.data.toList=[]:=List.length_eq_zero_iff.1 (by rw[hz.out];omega);rw[hnil,hb.out] at hk';obtain rfl:b=false:=by cases b<;>simp at hk'⊢
   clear hnil hk' hk hz h;go_wp2_with fail;go_meet;exact⟨rfl,rfl⟩
 case rest=>
  obtain⟨rfl,rfl⟩:=hcut;go_upto_if 15 with (fail)
  go_cut [4] (fun s4 wx=>s4= .int .i64 (k:Int)∧w=wx)
  case first=>
   cases b with
   |true=>
    obtain rfl:=hb.out;go_wp2_with fail;go_meet;exact⟨rfl,rfl⟩
   |false=>
    obtain rfl:=hb.out;go_wp2_with fail;go_meet;exact⟨rfl,rfl⟩
  case rest=>
   clear hb;obtain⟨rfl,rfl⟩:=hcut;have hk1:k=0∨k=1:=by have:=hk.out;split at this<;>omega
   have hkn:k≤s.size:=by
    have:=hk.out
    split at this
    ·rename_i e
     rcases Nat.eq_zero_or_pos s.size with e0|e0
     ·rw[List.length_eq_zero_iff.1 (hz.out.trans e0)] at e;cases e
     ·omega
    ·omega
   by_cases hn:s.size=k
   ·have h':=h.out;rw[if_pos (.inl hn)] at h';simp only[Prod.mk.injEq] at h';obtain⟨rfl,rfl⟩:=h';have t1:((s.size:Int)==(k:Int))=true:=by simp[hn]
    clear h hk hz hk1 hn;go_wp2_with fail;go_ret2;exact⟨rfl,rfl⟩
   ·have t1:((s.size:Int)==(k:Int))=false:=by simp;omega
    have hkl:k<s.size:=by omega
    have hB:=qaV s k hkl;obtain⟨c,hc⟩: ∃c,Hid (c=byt s k):=⟨_,Lh rfl⟩;rw[←hc.out] at hB
    by_cases h48:c=48∧1<s.size
    ·have h':=h.out;rw[if_pos (.inr ⟨(qiB s k).2 (hc.out▸h48.1),h48.2⟩)] at h';simp only[Prod.mk.injEq] at h';obtain⟨rfl,rfl⟩:=h';obtain⟨rfl,h2⟩:=h48;have t2:decide (1<(s.size:Int))=true:=dT (by omega);clear h hk hz hk1 hn hc;go_wp2_with fail;go_ret2;exact⟨rfl,rfl⟩
    ·have h':=h.out
     rw[if_neg (by rintro(e|⟨e1,e2⟩)
                   ·exact hn e
                   ·exact h48 ⟨hc.out.trans ((qiB s k).1 e1),e2⟩)] at h'
     replace h':=Lh h';clear h hk hz;obtain⟨b,hb⟩: ∃b:Bool,Hid ((c==48&&decide (1<(s.size:Int)))=b):=⟨_,Lh rfl⟩
     have hbf:Hid (b=false):=by
      show _=_;rw[←hb.out];simp only[Bool.and_eq_false_iff,decide_eq_false_iff_not,beq_eq_false_iff_ne]
      by_cases e:c=48
      ·right;intro e2;exact h48 ⟨e,by omega⟩
      ·exact .inl e
     obtain rfl:=hbf.out;go_upto_region 4 with (fail)
     go_cut [30] (fun s30 wx=>s30= .bool false∧w=wx)
     case first=>
      by_cases e:c=48
      ·subst e;have t2:decide (1<(s.size:Int))=false:=dF (fun e2=>h48 ⟨rfl,by omega⟩);clear h48 hb hbf hc h' hn hk1;go_wp2_with fail;go_meet;exact⟨rfl,rfl⟩
      ·have t2:(c==48)=false:=by simpa using e
       clear h48 hb hbf hc h' hn hk1 e;go_wp2_with fail;go_meet;exact⟨rfl,rfl⟩
     case rest=>
      obtain⟨rfl,rfl⟩:=hcut;clear h48 hb hbf hc hn hB c;go_wp2_with fail;go_loop [5,6] (fun s5 s6=> ∃a i:Nat,k≤i∧i≤s.size∧a≤9223372036854775808∧s5= .int .i64 (-(a:Int))∧s6= .int .i64 i∧Hid (qaA (s.data.toList.drop k) 0=qaA (s.data.toList.drop i) a)) (fun _ v=>s.size - (intOf v).toNat)
      case atStart=>exact⟨0,k,by omega,by omega,by omega,rfl,rfl,Lh rfl⟩
      case round=>
       obtain⟨a,i,hki,hi,ha,rfl,rfl,hA⟩:=hrel
       by_cases hlt:i<s.size
       ·have t3:decide ((i:Int)<s.size)=true:=dT (by omega);have hB:=qaV s i hlt;have hst:=Lh (hA.out.trans (qmP s i a hlt));have hc0:=qbD s i;have hc1:=qbR s i;obtain⟨c,hc⟩: ∃c,byt s i=c:=⟨_,rfl⟩;rw[hc] at hB hst hc0 hc1;clear hc hA
        by_cases g1:c<48
        ·have s1:decide (c<48)=true:=dT g1;have e1:=h'.out;rw[hst.out,if_neg (by omega)] at e1;simp only[Prod.mk.injEq] at e1;obtain⟨rfl,rfl⟩:=e1;clear hst h';go_wp2_with fail;go_ret2;exact⟨rfl,rfl⟩
        ·have s1:decide (c<48)=false:=dF g1
         by_cases g2:57<c
         ·have s2:decide (57<c)=true:=dT g2;have e1:=h'.out;rw[hst.out,if_neg (by omega)] at e1;simp only[Prod.mk.injEq] at e1;obtain⟨rfl,rfl⟩:=e1;clear hst h';go_wp2_with fail;go_ret2;exact⟨rfl,rfl⟩
         ·have s2:decide (57<c)=false:=dF g2;clear hc0 hc1;go_upto_region 13 with (fail)
          obtain⟨d,hd⟩: ∃d:Nat,c - 48=d:=⟨(c - 48).toNat,by omega⟩;rw[hd];have hd9:d≤9:=by omega
          have hst2:=hst.out;rw[if_pos (by omega),show c.toNat - 48=d by omega] at hst2;replace hst2:=Lh hst2;clear hst hd hB s1 s2 g1 g2 t3;go_cut [57] from 32 to 61 (fun s57 wx=>s57= .bool (decide (9223372036854775808<10*a+d))∧w=wx)
          case first=>
           obtain⟨q,hq⟩: ∃q:Int,Hid (Int.tdiv (-9223372036854775808+(d:Int)) 10=q):=⟨_,Lh rfl⟩;have hq':=hq.out
           have e:(-9223372036854775808+(d:Int)).tdiv 10= -(((9223372036854775808 - d:Nat)/10:Nat):Int):=by
            rw[show(-9223372036854775808+(d:Int))= -((9223372036854775808 - d:Nat):Int) by omega,Int.neg_tdiv,Int.tdiv_eq_ediv_of_nonneg (by omega)];rfl
           have hq1: -1000000000000000000≤q:=by omega
           have hq2:q≤0:=by omega
           have hdec:Hid (decide (-(a:Int)<q)=decide (9223372036854775808<10*a+d)):=by
            show _=_;apply decide_eq_decide.2;omega
           clear e;go_wp2_with fail;go_meet;exact⟨congrArg Value.bool hdec.out,rfl⟩
          case rest=>
           obtain⟨rfl,rfl⟩:=hcut;have hst':=hst2.out
           by_cases hbig:9223372036854775808<10*a+d
           ·rw[if_pos hbig] at hst';have e1:=h'.out;rw[hst'] at e1;simp only[Prod.mk.injEq] at e1;obtain⟨rfl,rfl⟩:=e1;have s3:decide (9223372036854775808<10*a+d)=true:=dT hbig;clear hst2 hst' h';go_wp2_with fail;go_ret2;exact⟨rfl,rfl⟩
           ·rw[if_neg hbig] at hst';replace hst':=Lh hst';have s3:decide (9223372036854775808<10*a+d)=false:=dF hbig;clear hst2;go_wp2_with fail;go_round
            case measure=>simp[intOf];omega
            case rel=>exact⟨10*a+d,i+1,by omega,by omega,by omega,congrArg (Value.int .i64) (by omega),by go_num,hst'⟩
       ·obtain rfl:i=s.size:=by omega
        have t3:decide ((s.size:Int)<s.size)=false:=dF (by omega);have e1:=h'.out;have hA':=hA.out;rw[List.drop_of_length_le (i:=s.size) (by simp),qaA] at hA';rw[hA'] at e1;simp only at e1;clear h' hA hA'
        by_cases hk0:k=0
        ·subst hk0;simp only[if_true] at e1
         by_cases hmax:a=9223372036854775808
         ·subst hmax;simp only[if_true,Prod.mk.injEq] at e1;obtain⟨rfl,rfl⟩:=e1;go_wp2_with fail;go_ret2;exact⟨rfl,rfl⟩
         ·rw[if_neg hmax] at e1;simp only[Prod.mk.injEq] at e1;obtain⟨rfl,rfl⟩:=e1;have s1:(-(a:Int)== -9223372036854775808)=false:=by simp;omega
          go_wp2_with fail;go_ret2;exact⟨rfl,rfl⟩
        ·rw[if_neg hk0] at e1;simp only[Prod.mk.injEq] at e1;obtain⟨rfl,rfl⟩:=e1;have s1:((k:Int)==0)=false:=by simp;omega
         go_wp2_with fail;go_ret2;exact⟨rfl,rfl⟩
end Go.Proofs.YtdeimnnpcfncpaaGreatDoor.L
end
