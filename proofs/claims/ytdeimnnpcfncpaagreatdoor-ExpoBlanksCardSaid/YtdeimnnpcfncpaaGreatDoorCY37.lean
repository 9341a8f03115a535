/- Parts of the proof: DR LH. -/
import Derived.Test.YtdeimnnpcfncpaaGreatDoorCY31
import Derived.Test.YtdeimnnpcfncpaaGreatDoorCY35
set_option linter.unusedVariables false
set_option linter.unusedSimpArgs false
set_option maxRecDepth 100000
set_option maxHeartbeats 64000000
section
namespace Go.Proofs.YtdeimnnpcfncpaaGreatDoor.X
open Go Go.RowKit
def qft (ls:List Lb) (n:List UInt8):List Lb:=ls.filter (fun x=>!(x.1==n))
theorem qm6 (n x:List UInt8) (q b cap:Nat) (w:World) (hc:w.cell? ⟨q,0,none⟩=some (.slice (some ⟨b,0,none⟩) 1 cap)) (hT:qcN w b [n]):
 Calls Tryz.prog 47 #[.string (BS x),.pointer (some ⟨q,0,none⟩)] w fun e w'=>e= .returned (.bool (!(x==n)))∧w=w':=by
 have cs:=qjz b cap [n] x (by simp) w hT
 have e:[n].contains x=(x==n):=by
  rw[List.contains_cons];simp
 rw[e] at cs;obtain⟨g,hg⟩: ∃g,(x==n)=g:=⟨_,rfl⟩;rw[hg] at cs⊢;replace cs:=Lh cs;clear hT e hg;go_enter Tryz.func47,Tryz.ntmps47;go_wp2_with fail;refine cs.out.mono ?_;rintro e w1 ⟨rfl,rfl⟩;go_wp2_with fail;go_ret;exact⟨rfl,rfl⟩
theorem drop_take (ls:List Lb) (n:List UInt8) (i:Nat) (h:i<ls.length):qft (ls.take (i+1)) n=qft (ls.take i) n++(if ((ls.getD i lb0).1==n)=true then [] else [ls.getD i lb0]):=by
 unfold qft;rw[List.take_add_one,List.getElem?_eq_getElem h,List.filter_append,List.getD_eq_getElem?_getD,List.getElem?_eq_getElem h];show _++([ls[i]].filter _)=_++(if (ls[i].1==n)=true then _ else _);cases hx:(ls[i].1==n)<;>simp[hx]
def qp0 (base:Nat) (w:World) (r:List Lb) (e:Ending) (w':World):Prop:= ∃v,e= .returned (.tuple #[v,.int .i64 0])∧w'.ownsRow base 44 2 v r.length (qaa r)∧Below w.heap.size w w'
theorem qjO (v:Value) (ls:List Lb) (n:List UInt8) (hr:qaF ls=true) (hb: ∀x∈ls,x.1.length≤1000000000∧x.2.length≤1000000000) (q b cap:Nat) (w:World) (hq:q<w.heap.size) (hc:w.cell? ⟨q,0,none⟩=some (.slice (some ⟨b,0,none⟩) 1 cap)) (hT:qcN w b [n]) (hv:qaN w v ls):
 Calls Tryz.prog 46 #[v,.func (.func 47) #[] #[.pointer (some ⟨q,0,none⟩)]] w (qp0 w.heap.size w (qft ls n)):=by
 obtain⟨a,c,rfl⟩:=hv.shape;have hl:=((qaP _).1 hr).1;have cR:=qcS _ ls (by omega) hb w hv;rw[hr] at cR;replace cR:=Lh cR;have hvh:=Lh hv;have c1:=Lh (fun x W (hB:Below w.heap.size w W)=>qm6 n x q b cap W ((hB.cell (p:=⟨q,0,none⟩) hq).trans hc) (hT.on hB));obtain⟨D,hD⟩: ∃D,Hid (D=qft ls n):=⟨_,Lh rfl⟩;rw[←hD.out];obtain⟨m,hm⟩: ∃m,m=ls.length:=⟨_,rfl⟩;have hmh:=Lh hm;rw[←hm] at hl cR⊢;clear hv hc hT hq hm hb hr;go_enter Tryz.func46,Tryz.ntmps46;go_wp2_with fail;refine cR.out.mono ?_;rintro e w1 ⟨rfl,B1⟩;replace B1:=Lh B1;clear cR;go_wp2_with fail;go_loopg [6,14] (m+1) (fun gk s6 s14 wx=> ∃(i:Nat) (r:List Lb),i≤m∧m - i<gk∧s14= .int .i64 (i:Int)∧r.length≤i∧Hid (r=qft (ls.take i) n)∧Hid (wx.ownsRow w.heap.size 44 2 s6 r.length (qaa r))∧Hid (Below w.heap.size w wx))
 case atStart=>exact⟨0,[],by omega,by omega,by go_num,by simp,Lh rfl,Lh ⟨rfl,.inl ⟨rfl,rfl⟩⟩,B1⟩
 case round=>
  clear B1;obtain⟨i,r,hi,hgk,rfl,hrl,hre,O,B⟩:=hrel
  by_cases hlt:i<m
  ·have hil:i<ls.length:=by rw[←hmh.out];exact hlt
   have u2:decide ((i:Int)<(m:Int))=true:=dT (by omega);have u3:decide (i<m)=true:=dT hlt;obtain⟨bb,off,rfl,hbl,x1,x2⟩:=(hvh.out.on B.out).at' i hil;have hdt:=Lh (drop_take ls n i hil);obtain⟨x,hx⟩: ∃x,Hid (x=ls.getD i lb0):=⟨_,Lh rfl⟩;rw[←hx.out] at x1 x2 hdt;have Bx: ∀ob,Hid (Below wr.heap.size wr (wr.alloc ob)):=fun ob=>Lh ((Below.refl _ _).alloc (Nat.le_refl _) ob)
   have By:=(Bx (.cells #[.string (BS x.1),.string (BS x.2)] 44)).out;have B2:=Lh (B.out.trans (By.mono B.out.size));have O2:=Lh (qah O.out By);have cx:=c1.out x.1 _ B2.out;obtain⟨g,hg⟩: ∃g,(x.1==n)=g:=⟨_,rfl⟩;rw[hg] at cx hdt;replace cx:=Lh cx;have NX:(wr.alloc (.cells #[.string (BS x.1),.string (BS x.2)] 44)).heap[wr.heap.size]?=some (.cells #[.string (BS x.1),.string (BS x.2)] 44 (0,0)):=World.alloc_heap_new _ _;clear Bx By B O hg
   cases g with
   |true=>
    go_wp2_with fail;refine cx.out.mono ?_;rintro e w2 ⟨rfl,rfl⟩;go_wp2_with fail;go_roundg (gk - 1)
    case measure=>omega
    case rel=>exact⟨i+1,r,by omega,by omega,by go_num,by omega,Lh (by rw[hdt.out,hre.out];simp),O2,B2⟩
   |false=>
    go_wp2_with fail;refine cx.out.mono ?_;rintro e w2 ⟨rfl,rfl⟩;have hsz:=B2.out.size;have k0:(wr.alloc (.cells #[.string (BS x.1),.string (BS x.2)] 44)).cell? ⟨wr.heap.size,0,none⟩=some (.string (BS x.1)):=by rw[Lib.cell_of_heap NX];rfl
    have k1:(wr.alloc (.cells #[.string (BS x.1),.string (BS x.2)] 44)).cell? ⟨wr.heap.size,1,none⟩=some (.string (BS x.2)):=by rw[Lib.cell_of_heap NX];rfl
    generalize wr.alloc (.cells #[.string (BS x.1),.string (BS x.2)] 44)=w5 at*;generalize wr.heap.size=P5 at*;go_wp2_with (at_builtin;go_must (refine qgm rfl (.tmp 22) (.tmp 24) 32 rfl 2 #[.string (BS x.1),.string (BS x.2)] rfl (by decide) w.heap.size (.agg #[.string ⟨#[]⟩,.string ⟨#[]⟩]) 32 (by kernel_rfl) qcJ rfl _ r.length (qaa r) rfl rfl O2.out (by intro u hu;simp at hu;rcases hu with rfl|rfl<;>rfl) (by decide) (by omega) hsz ?_);rintro v2 w6 hown3 hb6 hs6 hk6 _;have O6:=Lh hown3;have B6:=Lh (B2.out.trans hb6);clear hown3 hb6 hs6 hk6);go_roundg (gk - 1)
    case measure=>omega
    case rel=>exact⟨i+1,r++[x],by omega,by omega,by go_num,by simp;omega,Lh (by rw[hdt.out,hre.out];simp),Lh (by rw[List.length_append,show qaa (r++[x])=qaa r++qaX x by simp[qaa]];exact O6.out),B6⟩
  ·obtain rfl:i=m:=by omega
   have u2:decide ((i:Int)<(i:Int))=false:=dF (by omega);have hre2:=hre.out;rw[List.take_of_length_le (by rw[hmh.out];exact Nat.le_refl _),←hD.out] at hre2;subst hre2;obtain⟨a6,c6,rfl⟩:=qae O.out;go_wp2_with fail;go_ret2;exact⟨_,rfl,O.out,B.out⟩
theorem qpm (v:Value) (ls:List Lb) (n:List UInt8) (hr:qaF ls=true) (hb: ∀x∈ls,x.1.length≤1000000000∧x.2.length≤1000000000) (b cap:Nat) (w:World) (hT:qcN w b [n]) (hv:qaN w v ls):
 Calls Tryz.prog 16 #[v,.slice (some ⟨b,0,none⟩) 1 cap] w (qp0 w.heap.size w (qft ls n)):=by
 obtain⟨a,c,rfl⟩:=hv.shape;have Ba:Below w.heap.size w (w.alloc (.cells #[.slice (some ⟨b,0,none⟩) 1 cap] 42)):=(Below.refl _ _).alloc (Nat.le_refl _) _;have cf:=qjO _ ls n hr hb w.heap.size b cap (w.alloc (.cells #[.slice (some ⟨b,0,none⟩) 1 cap] 42)) (by simp) (by rw[Lib.cell_of_heap (World.alloc_heap_new _ _)];rfl) (hT.on Ba) (hv.on Ba);replace cf:=Lh cf;have Bah:=Lh Ba;clear hr hb hT hv Ba;go_enter Tryz.func16,Tryz.ntmps16;go_wp2_with fail;refine cf.out.mono ?_;rintro e w1 ⟨v2,rfl,hown,hb⟩;have R:=Lh (show qp0 w.heap.size w (qft ls n) (.returned (.tuple #[v2,.int .i64 0])) w1 from⟨v2,rfl,qaQ hown Bah.out.size,Bah.out.trans (hb.mono Bah.out.size)⟩);obtain⟨a2,c2,rfl⟩:=qae hown;clear hown hb cf Bah;go_wp2_with fail;go_ret2;exact R.out
end Go.Proofs.YtdeimnnpcfncpaaGreatDoor.X
end
section
namespace Go.Proofs.YtdeimnnpcfncpaaGreatDoor.L
open Go.RowKit Go.Shelf X
theorem ql0 (l:List UInt8) (i:Nat) (h:i<l.length) (hc:l.getD i 0=10) (p:List UInt8):qba p (rdh (l.drop i))=(223,[]):=by
 rw[qas l i h,hc];cases l.drop (i+1)<;>rfl
theorem qpz (l:List UInt8) (i:Nat) (h:l.length≤i) (p:List UInt8):qba p (rdh (l.drop i))=(0,p):=by
 rw[List.drop_of_length_le h];show(0,p++[])=_;rw[List.append_nil]
theorem qec (p q:List UInt8) (r:Int×List UInt8):qba p (qba q r)=qba (p++q) r:=by
 unfold qba
 by_cases h:r.1=0
 ·simp[h]
 ·simp[h]
theorem qfh (l:List UInt8) (i:Nat) (h:i+1=l.length) (hc:l.getD i 0=92) (p:List UInt8):qba p (rdh (l.drop i))=(220,[]):=by
 rw[qas l i (by omega),hc,List.drop_of_length_le (by omega)];rfl
theorem qgy (l:List UInt8) (i:Nat) (h:i+1<l.length) (hc:l.getD i 0=92) (he:qgD (l.getD (i+1) 0)=[]) (p:List UInt8):qba p (rdh (l.drop i))=(220,[]):=by
 rw[qas l i (by omega),hc,qas l (i+1) h,rdh,if_neg (by decide),if_pos rfl,if_pos he];rfl
theorem qkt (l:List UInt8) (i:Nat) (h:i+1<l.length) (hc:l.getD i 0=92) (he:qgD (l.getD (i+1) 0)≠[]) (p:List UInt8):qba p (rdh (l.drop i))=qba (p++qgD (l.getD (i+1) 0)) (rdh (l.drop (i+2))):=by
 rw[qas l i (by omega),hc,qas l (i+1) h,rdh,if_neg (by decide),if_pos rfl,if_neg he,qec]
theorem qmr (l:List UInt8) (i:Nat) (h:i<l.length) (h1:l.getD i 0≠10) (h3:l.getD i 0≠92) (p:List UInt8):qba p (rdh (l.drop i))=qba (p++[l.getD i 0]) (rdh (l.drop (i+1))):=by
 rw[qas l i h,←qec]
 congr 1
 generalize l.getD i 0=c at h1 h3⊢
 cases l.drop (i+1)with
 |nil=>simp[rdh,h1,h3,qba]
 |cons x t=>rw[rdh,if_neg h1,if_neg h3]
theorem qqV (x:UInt8):qdo x 2=qgD x:=by
 unfold qgD
 by_cases h1:x=92
 ·subst h1;decide
 ·by_cases h2:x=110
  ·subst h2;decide
  ·simp[qdo,plU,h1,h2]
theorem qrT (x:UInt8):fnd x 2=decide (qgD x≠[]):=by
 unfold qgD
 by_cases h1:x=92
 ·subst h1;decide
 ·by_cases h2:x=110
  ·subst h2;decide
  ·simp[fnd,plU,h1,h2]
theorem qjQ (s:ByteArray) (hs:s.size<900000) (w:World):Calls Tryz.prog 236 #[.string s,.int .i64 2,.bool false] w fun e w'=>(∃n,e= .returned (.tuple #[.string ⟨(qba [] (rdh s.data.toList)).2.toArray⟩,.int .i64 n,.int .i64 (qba [] (rdh s.data.toList)).1]))∧Below w.heap.size w w':=by
 obtain⟨R,hR⟩: ∃R,Hid (qba [] (rdh (s.data.toList.drop 0))=R):=⟨_,rfl⟩;rw[show qba [] (rdh s.data.toList)=R from hR.out];have hz:Hid (s.data.toList.length=s.size):=by show _=_;simp
 go_enter Tryz.func236,Tryz.ntmps236;go_wp2_with fail;go_step3;go_wp2_with fail;refine(qej _).mono ?_;rintro e w1 ⟨rfl,hb1⟩;go_wp2_with fail;go_step3;show Exit.then _ _ _ _ (w1.alloc (.cells qe2 276));have I:=Lh (qjN w w1 hb1);have hN:w1.heap.size≠w.heap.size:=by have:=hb1.size;simp at this;omega
 clear hb1;generalize w1.alloc (.cells qe2 276)=w2 at I⊢;generalize w1.heap.size=N at I hN⊢;go_wp2_with fail;go_loopg [11,12] (s.size+1) (fun g s11 s12 wx=> ∃(i:Nat) (acc:List UInt8),i+g=s.size+1∧s11= .int .i64 i∧s12= .int .i64 0∧i≤s.size∧acc.length≤i∧Hid (qba acc (rdh (s.data.toList.drop i))=R)∧Hid (RdI w w.heap.size N acc wx))
 case atStart=>exact⟨0,[],by omega,rfl,rfl,by omega,by simp,hR,I⟩
 case round=>
  clear I hR;obtain⟨i,acc,hi,rfl,rfl,hin,hal,hR,I⟩:=hrel
  by_cases hlt:i<s.size
  ·have t1:decide (i<s.size)=true:=dT hlt;have hB:=qde s i hlt;obtain⟨c,hc⟩: ∃c,Hid (s.data.toList.getD i 0=c):=⟨_,rfl⟩;rw[show byt s i=(c.toNat:Int) by unfold byt;rw[hc.out]] at hB;have hli:i<s.data.toList.length:=by rw[hz.out];exact hlt
   by_cases g1:c=10
   ·subst g1;have e:=hR.out;rw[ql0 _ _ hli hc.out] at e;subst e;rw[show(((10:UInt8).toNat:Int))=10 from rfl] at hB;clear hli hc hR;go_wp2_with fail;rw[Exit.noGoto_ret];go_ret3;exact⟨⟨_,rfl⟩,I.out.2⟩
   ·have s1:((c.toNat:Int)==10)=false:=qdh c 10 _ rfl g1
    by_cases g3:c=92
    ·subst g3;rw[show(((92:UInt8).toNat:Int))=92 from rfl] at hB
     by_cases hend:i+1=s.size
     ·have e:=hR.out;rw[qfh _ _ (by rw[hz.out];exact hend) hc.out] at e;subst e;have t2:((i:Int)+1==(s.size:Int))=true:=by simp;omega
      clear hli hc hR;go_wp2_with fail;rw[Exit.noGoto_ret];go_ret3;exact⟨⟨_,rfl⟩,I.out.2⟩
     ·have t2:((i:Int)+1==(s.size:Int))=false:=by simp;omega
      have hlt2:i+1<s.size:=by omega
      have hB2:=qde s (i+1) hlt2;obtain⟨x,hx⟩: ∃x,Hid (s.data.toList.getD (i+1) 0=x):=⟨_,rfl⟩;rw[show byt s (i+1)=(x.toNat:Int) by unfold byt;rw[hx.out]] at hB2;have t3:decide (0≤(i:Int)+1)=true:=dT (by omega);go_wp2_with fail;go_loopg [14,55] 2 (fun gj s14 s55 wx=> ∃j:Nat,j+gj=2∧s55= .int .i64 j∧s14= .bool (fnd x j)∧Hid (RdI w w.heap.size N (acc++qdo x j) wx))
      case atStart=>exact⟨0,by omega,rfl,rfl,by rw[qdo,List.append_nil];exact I⟩
      case round=>
       clear I;obtain⟨j,hj,rfl,rfl,I⟩:=hrel
       by_cases hlj:j<2
       ·have t4:decide (j<2)=true:=dT hlj;obtain⟨k1,k2⟩:=I.out.1.2.cells j (by omega);rw[qjm] at k1;rw[qk4] at k2;have hI1:=Lh (I.out.alloc (.cells #[.int .u8 ((pcU j).toNat:Int),.int .u8 ((plU j).toNat:Int)] 275));have hol:=qe3 x j
        by_cases he:x=plU j
        ·have s4:((x.toNat:Int)==((plU j).toNat:Int))=true:=by rw[he];simp
         have ho:acc++qdo x j++[pcU j]=acc++qdo x (j+1):=by rw[qdo,if_pos he,List.append_assoc]
         have hf:fnd x (j+1)=true:=by rw[fnd,dT he,Bool.or_true]
         replace ho:=Lh ho;clear I;go_upto_region 26 with (fail)
         go_region;go_wp2_with fail;refine(qsu w w.heap.size N hN (acc++qdo x j) (pcU j) (by simp;omega) _ hI1.out.drew).mono ?_;rintro e w3 ⟨rfl,hI3⟩;rw[ho.out] at hI3;replace hI3:=Lh hI3;clear hI1;go_wp2_with fail;go_roundg (gk - 1)
         case measure=>omega
         case rel=>exact⟨j+1,by omega,rfl,by rw[hf],hI3⟩
        ·have s4:((x.toNat:Int)==((plU j).toNat:Int))=false:=qdh x _ _ rfl he;have ho:acc++qdo x (j+1)=acc++qdo x j:=by rw[qdo,if_neg he,List.append_nil]
         have hf:fnd x (j+1)=fnd x j:=by rw[fnd,dF he,Bool.or_false]
         replace ho:=Lh ho;clear I;go_upto_region 26 with (fail)
         go_region;go_wp2_with fail;go_roundg (gk - 1)
         case measure=>omega
         case rel=>exact⟨j+1,by omega,rfl,by rw[hf],by rw[ho.out];exact hI1.out.drew⟩
       ·obtain rfl:j=2:=by omega
        have t4:decide (2<2)=false:=rfl;rw[qqV] at I
        by_cases he:qgD x=[]
        ·have hf:fnd x 2=false:=by rw[qrT,he];rfl
         have e:=hR.out;rw[qgy _ _ (by rw[hz.out];exact hlt2) hc.out (by rw[hx.out];exact he)] at e;subst e;clear hli hc hR hx;go_wp2_with fail;rw[Exit.noGoto_ret];go_ret3;exact⟨⟨_,rfl⟩,I.out.2⟩
        ·have hf:fnd x 2=true:=by rw[qrT];exact dT he
         have hR2:=qkt _ _ (by rw[hz.out];exact hlt2) hc.out (by rw[hx.out];exact he) acc;rw[hx.out,hR.out] at hR2;replace hR2:=Lh hR2.symm;have hel:(qgD x).length≤1:=by unfold qgD;(repeat' split)<;>simp
         clear hli hc hR hx;go_wp2_with fail;go_roundg (s.size+1 - (i+2))
         case measure=>omega
         case rel=>exact⟨i+2,acc++qgD x,by omega,by go_num,rfl,by omega,by simp;omega,hR2,I⟩
    ·have s3:((c.toNat:Int)==92)=false:=qdh c 92 _ rfl g3;have s3':((c.toNat:Int) !=92)=true:=by rw[bne,s3];rfl
     have hR2:=Lh (qmr _ _ hli (by rw[hc.out];exact g1) (by rw[hc.out];exact g3) acc);rw[hc.out,hR.out] at hR2;replace hR2:=Lh hR2.out.symm;cases s2:((c.toNat:Int)==34)
     all_goals
      go_wp2_with fail;refine(qsu w w.heap.size N hN acc c (by omega) _ I.out).mono ?_;rintro e w3 ⟨rfl,hI3⟩;replace hI3:=Lh hI3;clear I hR;go_wp2_with fail;go_roundg (gk - 1)
      case measure=>omega
      case rel=>exact⟨i+1,acc++[c],by omega,rfl,rfl,by omega,by simp;omega,hR2,hI3⟩
  ·obtain rfl:i=s.size:=by omega
   have t1:decide (s.size<s.size)=false:=dF (by omega);have e:=hR.out;rw[qpz _ _ (by rw[hz.out];omega)] at e;subst e;go_wp2_with fail;refine(qqc w.heap.size w.heap.size acc _ rfl _ I.out.1.1 I.out.2.size).mono ?_;rintro e w3 ⟨rfl,_,hb3,_⟩;have B3:=I.out.2.trans hb3;go_wp2_with fail;rw[Exit.noGoto_ret];go_ret3;exact⟨⟨_,rfl⟩,B3⟩
theorem qf5 (p:List UInt8) (r:Int×List UInt8) (h:(qba p r).1≠0):(qba p r).2=[]:=by
 unfold qba at h⊢
 split
 ·rename_i g;rw[if_pos g] at h;exact absurd rfl h
 ·rfl
theorem qpb: ∀l:List UInt8,(rdh l).1≠0→(rdh l).2=[]
 | [],h=>absurd rfl h
 | [c],h=>by
   unfold rdh at h⊢
   split
   ·rfl
   ·rename_i g
    rw[if_neg g] at h
    split
    ·rfl
    ·rename_i g2;rw[if_neg g2] at h;exact absurd rfl h
 |c::x::t,h=>by
  rw[rdh] at h⊢
  split
  ·rfl
  ·rename_i g
   rw[if_neg g] at h
   split
   ·rename_i g2
    rw[if_pos g2] at h
    split
    ·rfl
    ·rename_i g3;rw[if_neg g3] at h;exact qf5 _ _ h
   ·rename_i g2
    rw[if_neg g2] at h;exact qf5 _ _ h
theorem help_any (l:List UInt8) (hl:l.length≤65536) (w:World):Calls Tryz.prog 211 #[.string (BS l)] w fun e w'=>e= .returned (.tuple #[.string (BS (rdh l).2),.int .i64 (rdh l).1])∧Below w.heap.size w w':=by
 have hz:=qac l;have c:=qjQ (BS l) (by omega) w;rw[show(BS l).data.toList=l by simp[BS]] at c
 have he:qba [] (rdh l)=rdh l:=by
  unfold qba
  by_cases h:(rdh l).1=0
  ·rw[if_pos h,List.nil_append,←h]
  ·rw[if_neg h];have h2:=qpb l h;rw[←h2]
 rw[he] at c;have hc:=Lh c;have u1:decide ((65536:Int)<((BS l).size:Int))=false:=dF (by omega);clear c he;generalize rdh l=q at hc⊢;go_enter Tryz.func211,Tryz.ntmps211;go_wp2_with fail;refine hc.out.mono ?_;rintro x w1 ⟨⟨n,rfl⟩,B⟩;go_wp2_with fail;go_ret2;exact⟨rfl,B⟩
end Go.Proofs.YtdeimnnpcfncpaaGreatDoor.L
end
