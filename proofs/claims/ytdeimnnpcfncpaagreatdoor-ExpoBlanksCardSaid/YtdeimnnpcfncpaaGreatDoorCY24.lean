/- Parts of the proof: A2. -/
import Derived.Test.YtdeimnnpcfncpaaGreatDoorCY23
set_option linter.unusedVariables false
set_option linter.unusedSimpArgs false
set_option maxRecDepth 100000
set_option maxHeartbeats 64000000
namespace Go.Proofs.YtdeimnnpcfncpaaGreatDoor.X
open Go Go.RowKit
theorem bq {B:Nat} {w w':World} (h:Below B w w') (n:Nat):Below B w (w'.drewN n):=h.trans ⟨rfl,rfl,rfl,Nat.le_refl _,fun _ _=>rfl⟩
theorem qof (s:ByteArray):BS s.data.toList=s:=qqM s
theorem qad (l:List UInt8):(BS l).toList=l:=by rw[ByteArray.toList_eq];rfl
abbrev Lb:=List UInt8×List UInt8
def lb0:Lb:=([],[])
def qaN (w:World) (v:Value) (ls:List Lb):Prop:=
 (∃a c,(a=none→c=0)∧v= .slice a 0 c∧ls=[])∨
 ∃b off cap,v= .slice (some ⟨b,off,none⟩) ls.length cap∧b<w.heap.size∧ls.length≤cap∧cap≤maxLen∧
  ∀i,i<ls.length→w.cell? ⟨b,off+i*2,none⟩=some (.string (BS (ls.getD i lb0).1))∧w.cell? ⟨b,off+i*2+1,none⟩=some (.string (BS (ls.getD i lb0).2))
theorem qaN.on {w W:World} {v:Value} {ls:List Lb} (h:qaN w v ls) (hb:Below w.heap.size w W):qaN W v ls:=by
 rcases h with h|⟨b,off,cap,h1,h2,h3,h4,h5⟩
 ·exact .inl h
 ·exact .inr ⟨b,off,cap,h1,Nat.lt_of_lt_of_le h2 hb.size,h3,h4,fun i hi=>⟨(hb.cell (p:=⟨b,off+i*2,none⟩) h2).trans (h5 i hi).1,(hb.cell (p:=⟨b,off+i*2+1,none⟩) h2).trans (h5 i hi).2⟩⟩
theorem qaN.shape {w:World} {v:Value} {ls:List Lb} (h:qaN w v ls): ∃a c,v= .slice a ls.length c:=by
 rcases h with ⟨a,c,_,h1,h2⟩|⟨b,off,cap,h1,_⟩
 ·exact⟨_,_,by rw[h1,h2];rfl⟩
 ·exact⟨_,_,h1⟩
theorem qaN.at' {w:World} {a:Option Addr} {n c:Nat} {ls:List Lb} (h:qaN w (.slice a n c) ls) (i:Nat) (hi:i<ls.length): ∃b off,a=some ⟨b,off,none⟩∧b<w.heap.size∧w.cell? ⟨b,off+i*2,none⟩=some (.string (BS (ls.getD i lb0).1))∧w.cell? ⟨b,off+i*2+1,none⟩=some (.string (BS (ls.getD i lb0).2)):=by
 rcases h with ⟨_,_,_,h1,h2⟩|⟨b,off,cap,h1,h2,_,_,h5⟩
 ·rw[h2] at hi;simp at hi
 ·obtain⟨rfl,_,_⟩:=(Value.slice.injEq ..).mp h1;exact⟨b,off,rfl,h2,h5 i hi⟩
def qb0 (x:Lb):Int:=if qan 95 x.1=true then (if qbi x.2=true then 0 else 41) else 40
theorem qgP (x:Lb) (h1:x.1.length≤281474976710656) (h2:x.2.length≤281474976710656) (w:World):Calls Tryz.prog 50 #[.agg #[.string (BS x.1),.string (BS x.2)]] w fun e w'=>e= .returned (.int .i64 (qb0 x))∧Below w.heap.size w w':=by
 have c1:=Lh (fun W=>qhM (BS x.1) (by rw[qac];exact h1) W);have c2:=Lh (fun W=>qex (BS x.2) (by rw[qac];exact h2) W);rw[show(BS x.1).data.toList=x.1 from rfl] at c1;rw[show(BS x.2).data.toList=x.2 from rfl] at c2;have hR:Hid (qb0 x=if qan 95 x.1=true then (if qbi x.2=true then 0 else 41) else 40):=Lh rfl;obtain⟨a,ha⟩: ∃a,qan 95 x.1=a:=⟨_,rfl⟩;obtain⟨b,hb⟩: ∃b,qbi x.2=b:=⟨_,rfl⟩;rw[ha] at c1 hR;rw[hb] at c2 hR;obtain⟨s1,hs1⟩: ∃s,Hid (s=BS x.1):=⟨_,Lh rfl⟩;obtain⟨s2,hs2⟩: ∃s,Hid (s=BS x.2):=⟨_,Lh rfl⟩;rw[←hs1.out] at c1⊢;rw[←hs2.out] at c2⊢;have hB: ∀ob,Hid (Below w.heap.size w (w.alloc ob)):=fun ob=>Lh ((Below.refl _ _).alloc (Nat.le_refl _) ob)
 clear ha hb;go_enter Tryz.func50,Tryz.ntmps50;go_wp2_with fail;refine(c1.out _).mono ?_;rintro e w1 ⟨rfl,rfl⟩
 cases a with
 |false=>
  go_wp2_with fail;go_ret;exact⟨by rw[hR.out];rfl,(hB _).out⟩
 |true=>
  go_wp2_with fail;refine(c2.out _).mono ?_;rintro e w1 ⟨rfl,rfl⟩
  cases b with
  |false=>
   go_wp2_with fail;go_ret;exact⟨by rw[hR.out];rfl,(hB _).out⟩
  |true=>
   go_wp2_with fail;go_ret;exact⟨by rw[hR.out];rfl,(hB _).out⟩
def leB (a b:List UInt8):Bool:=Op.bytesLess a b||a==b
def qhq (prev:Option (List UInt8)) (x:Lb):Bool:=x.2.isEmpty||(match prev with|none=>false|some p=>leB x.1 p)
def chk:Nat→Option (List UInt8)→List Lb→Int×Int
 |_,_,[]=>(-1,0)
 |i,prev,x::t=>if qb0 x≠0 then ((i:Int),qb0 x) else if qhq prev x=true then ((i:Int),42) else chk (i+1) (some x.1) t
def qcp (ls:List Lb):Int×Int:=if 64<ls.length then (-1,5) else chk 0 none ls
def qaF (ls:List Lb):Bool:=(qcp ls).2==0
def qdp (ls:List Lb) (i:Nat):Option (List UInt8):=if i=0 then none else some (ls.getD (i - 1) lb0).1
theorem qey (t:TypeId) (a b:ByteArray):binOp .leq t (.string a) (.string b)=pure (.bool (Op.bytesLess a.toList b.toList||a.toList==b.toList)):=by simp[binOp,Op.stringOp]
theorem qgf (ls:List Lb) (i:Nat) (h:i<ls.length):ls.drop i=ls.getD i lb0::ls.drop (i+1):=by
 rw[List.drop_eq_getElem_cons h,List.getD_eq_getElem?_getD,List.getElem?_eq_getElem h];rfl
theorem qmU (ls:List Lb) (i:Nat) (h:i<ls.length) (p:Option (List UInt8)):chk i p (ls.drop i)=if qb0 (ls.getD i lb0)≠0 then ((i:Int),qb0 (ls.getD i lb0)) else if qhq p (ls.getD i lb0)=true then ((i:Int),42) else chk (i+1) (some (ls.getD i lb0).1) (ls.drop (i+1)):=by
 rw[qgf ls i h];rfl
theorem qei (v:Value) (ls:List Lb) (hl:ls.length≤1000000000) (hb: ∀x∈ls,x.1.length≤1000000000∧x.2.length≤1000000000) (w:World) (hr:qaN w v ls):
 Calls Tryz.prog 107 #[v] w fun e w'=>e= .returned (.tuple #[.int .i64 (qcp ls).1,.int .i64 (qcp ls).2])∧Below w.heap.size w w':=by
 obtain⟨a,c,rfl⟩:=hr.shape;have hrh:=Lh hr;have hbh:=Lh hb;clear hr hb
 by_cases h64:64<ls.length
 ·have u1:decide ((64:Int)<(ls.length:Int))=true:=dT (by omega);have hR:Hid (qcp ls=(-1,5)):=Lh (by unfold qcp;rw[if_pos h64]);go_enter Tryz.func107,Tryz.ntmps107;go_wp2_with fail;go_ret2;exact⟨by rw[hR.out];rfl,Below.refl _ _⟩
 ·have u1:decide ((64:Int)<(ls.length:Int))=false:=dF (by omega);have hR:Hid (qcp ls=chk 0 none ls):=Lh (by unfold qcp;rw[if_neg h64]);obtain⟨r1,r2,hr12⟩: ∃r1 r2,Hid (qcp ls=(r1,r2)):=⟨_,_,Lh rfl⟩;rw[hr12.out] at hR⊢;obtain⟨n,hn⟩: ∃n,n=ls.length:=⟨_,rfl⟩;have hnh:=Lh hn;rw[←hn] at u1⊢;clear hn;go_enter Tryz.func107,Tryz.ntmps107;go_wp2_with fail;go_loopg [12] (n+1) (fun gk s12 wx=> ∃i:Nat,i≤n∧n - i<gk∧s12= .int .i64 (i:Int)∧Hid ((r1,r2)=chk i (qdp ls i) (ls.drop i))∧Hid (Below w.heap.size w wx))
  case atStart=>exact⟨0,by omega,by omega,rfl,Lh (by rw[hR.out];rfl),Lh (Below.refl _ _)⟩
  case round=>
   obtain⟨i,hi,hgk,rfl,hI,B⟩:=hrel
   by_cases hlt:i<n
   ·have u2:decide ((i:Int)<(n:Int))=true:=dT (by omega);have u3:decide (i<n)=true:=dT hlt;have hil:i<ls.length:=by rw[←hnh.out];exact hlt
    obtain⟨b,off,rfl,hbl,x1,x2⟩:=(hrh.out.on B.out).at' i hil;have hI2:=hI.out;rw[qmU ls i hil] at hI2;obtain⟨x,hx⟩: ∃x,Hid (x=ls.getD i lb0):=⟨_,Lh rfl⟩;rw[←hx.out] at x1 x2 hI2;have hxb:x.1.length≤1000000000∧x.2.length≤1000000000:=hbh.out x (by rw[hx.out,List.getD_eq_getElem?_getD,List.getElem?_eq_getElem hil];exact List.getElem_mem _);have co:=Lh (fun W=>qgP x (by omega) (by omega) W);have hBB: ∀ob,Hid (Below w.heap.size w (wr.alloc ob)):=fun ob=>Lh (B.out.alloc B.out.size ob)
    go_wp2_with fail;refine(co.out _).mono ?_;rintro e w1 ⟨rfl,hb1⟩;have B1:=Lh ((hBB _).out.trans (hb1.mono (hBB _).out.size));have d0:w1.cell? ⟨wr.heap.size,0,none⟩=some (.string (BS x.1)):=(hb1.cell (p:=⟨wr.heap.size,0,none⟩) (by simp)).trans (by rw[Lib.cell_of_heap (Array.getElem?_push_size)];rfl);have d1:w1.cell? ⟨wr.heap.size,1,none⟩=some (.string (BS x.2)):=(hb1.cell (p:=⟨wr.heap.size,1,none⟩) (by simp)).trans (by rw[Lib.cell_of_heap (Array.getElem?_push_size)];rfl);clear hb1 co x1 x2 hBB
    by_cases h0:qb0 x=0
    ·rw[if_neg (by simp[h0])] at hI2;have u4:(qb0 x==0)=true:=by rw[h0];rfl
     rw[h0];have hze:(BS x.2).toList.isEmpty=x.2.isEmpty:=by rw[qad]
     cases hem:x.2.isEmpty with
     |true=>
      rw[hem] at hze;have hbo:qhq (qdp ls i) x=true:=by unfold qhq;rw[hem];rfl
      rw[if_pos hbo] at hI2;have e1:r1=(i:Int):=congrArg Prod.fst hI2;have e2:r2=42:=congrArg Prod.snd hI2;subst e1 e2;clear hI hI2 hbo hem h0 u4;go_upto_region 7 with (fail)
      go_quiet (fail);go_wp2_with fail;go_ret2;exact⟨rfl,bq B1.out _⟩
     |false=>
      rw[hem] at hze
      by_cases hi0:i=0
      ·have hbo:qhq (qdp ls i) x=false:=by unfold qhq qdp;rw[hem,if_pos hi0];rfl
       rw[if_neg (by rw[hbo];decide)] at hI2
       have hI3:Hid ((r1,r2)=chk (i+1) (qdp ls (i+1)) (ls.drop (i+1))):=Lh (by
        rw[hI2];unfold qdp;rw[if_neg (Nat.succ_ne_zero i),Nat.add_sub_cancel,←hx.out])
       have u7:decide ((0:Int)<(i:Int))=false:=dF (by omega);have u8:decide (0<i)=false:=dF (by omega);clear hI hI2 hbo hem h0 u4 hi0;go_upto_region 7 with (fail)
       go_quiet (fail);go_wp2_with fail;go_roundg (gk - 1)
       case measure=>omega
       case rel=>exact⟨i+1,by omega,by omega,by go_num,hI3,Lh (bq B1.out _)⟩
      ·obtain⟨j,rfl⟩: ∃j,i=j+1:=⟨i - 1,by omega⟩;obtain⟨b',off',hbo',-,y1,-⟩:=(hrh.out.on B1.out).at' j (by omega);obtain⟨p,hp⟩: ∃p,Hid (p=(ls.getD j lb0).1):=⟨_,Lh rfl⟩;rw[←hp.out] at y1
       obtain⟨rfl,rfl⟩:b=b'∧off=off':=by
        simp only[Option.some.injEq,Addr.mk.injEq] at hbo';exact⟨hbo'.1,hbo'.2.1⟩
       have u7:decide ((0:Int)<((j+1:Nat):Int))=true:=dT (by omega);have u8:decide (0<j+1)=true:=dT (by omega);have e9:(((j+1:Nat):Int) - 1)=(j:Int):=by omega
       cases hlq:leB x.1 p with
       |true=>
        have hq: ∀W:World,(binOp .leq 9 (.string (BS x.1)) (.string (BS p))).run Tryz.prog W= .ok (.bool true) W:=fun W=>by
         rw[qey,qad,qad,show(Op.bytesLess x.1 p||x.1==p)=true from hlq];rfl
        have hbo:qhq (qdp ls (j+1)) x=true:=by
         unfold qhq qdp;rw[hem,if_neg (Nat.succ_ne_zero j),Nat.add_sub_cancel,←hp.out];exact hlq
        rw[if_pos hbo] at hI2;have e1:r1=((j+1:Nat):Int):=congrArg Prod.fst hI2;have e2:r2=42:=congrArg Prod.snd hI2;subst e1 e2;clear hI hI2 hbo hem h0 u4 hlq hbo' hi0;go_upto_region 7 with (fail)
        go_quiet (fail);go_wp2_with fail;go_ret2;exact⟨rfl,bq B1.out _⟩
       |false=>
        have hq: ∀W:World,(binOp .leq 9 (.string (BS x.1)) (.string (BS p))).run Tryz.prog W= .ok (.bool false) W:=fun W=>by
         rw[qey,qad,qad,show(Op.bytesLess x.1 p||x.1==p)=false from hlq];rfl
        have hbo:qhq (qdp ls (j+1)) x=false:=by
         unfold qhq qdp;rw[hem,if_neg (Nat.succ_ne_zero j),Nat.add_sub_cancel,←hp.out];exact hlq
        rw[if_neg (by rw[hbo];decide)] at hI2
        have hI3:Hid ((r1,r2)=chk (j+1+1) (qdp ls (j+1+1)) (ls.drop (j+1+1))):=Lh (by
         rw[hI2];unfold qdp;rw[if_neg (Nat.succ_ne_zero (j+1)),Nat.add_sub_cancel,←hx.out])
        clear hI hI2 hbo hem h0 u4 hlq hbo' hi0;go_upto_region 7 with (fail)
        go_quiet (fail);go_wp2_with fail;go_roundg (gk - 1)
        case measure=>omega
        case rel=>exact⟨j+1+1,by omega,by omega,by go_num,hI3,Lh (bq B1.out _)⟩
    ·rw[if_pos h0] at hI2;have e1:r1=(i:Int):=congrArg Prod.fst hI2;have e2:r2=qb0 x:=congrArg Prod.snd hI2;have u4:(qb0 x==0)=false:=beq_eq_false_iff_ne.2 h0;have u5:(qb0 x !=0)=true:=by rw[bne,u4];rfl
     obtain⟨ov,hov⟩: ∃ov,ov=qb0 x:=⟨_,rfl⟩;rw[←hov] at e2 u4 u5⊢;subst e1 e2;clear hov hI hI2 h0;go_upto_region 7 with (fail)
     go_quiet (fail);go_wp2_with fail;go_ret2;exact⟨rfl,bq B1.out _⟩
   ·obtain rfl:i=n:=by omega
    have hF:Hid ((r1,r2)=(-1,0)):=Lh (by rw[hI.out,List.drop_of_length_le (by rw[←hnh.out];exact Nat.le_refl _)];rfl);have u2:decide ((i:Int)<(i:Int))=false:=dF (by omega);have e1:=congrArg Prod.fst hF.out;have e2:=congrArg Prod.snd hF.out;simp only at e1 e2;subst e1 e2;clear hI;go_wp2_with fail;go_ret2;exact⟨rfl,B.out⟩
theorem qiv (ls:List Lb): ∃r1 r2,qcp ls=(r1,r2):=⟨_,_,rfl⟩
theorem qcS (v:Value) (ls:List Lb) (hl:ls.length≤1000000000) (hb: ∀x∈ls,x.1.length≤1000000000∧x.2.length≤1000000000) (w:World) (hr:qaN w v ls):
 Calls Tryz.prog 49 #[v] w fun e w'=>e= .returned (.bool (qaF ls))∧Below w.heap.size w w':=by
 have c:=qei v ls hl hb w hr;obtain⟨a,cp,rfl⟩:=hr.shape;obtain⟨r1,r2,h12⟩:=qiv ls;have hF:Hid (qaF ls=(r2==0)):=Lh (by unfold qaF;rw[h12]);rw[h12] at c;clear h12 hr hb;go_enter Tryz.func49,Tryz.ntmps49;go_wp2_with fail;refine c.mono ?_;rintro e w1 ⟨rfl,hB⟩;go_wp2_with fail;go_ret;exact⟨by rw[hF.out];rfl,hB⟩
def qaI (ls:List Lb) (n:List UInt8):List UInt8:=match ls.find? (fun x=>x.1==n)with|some x=>x.2|none=>[]
theorem qlz (ls:List Lb) (n:List UInt8) (i:Nat) (h:i<ls.length):qaI (ls.drop i) n=if (ls.getD i lb0).1=n then (ls.getD i lb0).2 else qaI (ls.drop (i+1)) n:=by
 rw[qgf ls i h];unfold qaI;rw[List.find?_cons]
 by_cases e:(ls.getD i lb0).1=n
 ·rw[if_pos e,show((ls.getD i lb0).1==n)=true by rw[e];exact beq_self_eq_true _]
 ·rw[if_neg e,show((ls.getD i lb0).1==n)=false by rw[beq_eq_false_iff_ne];exact e]
theorem qhh (v:Value) (ls:List Lb) (n:List UInt8) (hl:ls.length≤1000000000) (w:World) (hr:qaN w v ls):
 Calls Tryz.prog 23 #[v,.string (BS n)] w fun e w'=>e= .returned (.string (BS (qaI ls n)))∧Below w.heap.size w w':=by
 obtain⟨a,c,rfl⟩:=hr.shape;have hrh:=Lh hr;clear hr;obtain⟨G,hG⟩: ∃G,Hid (G=qaI ls n):=⟨_,Lh rfl⟩;rw[←hG.out];obtain⟨m,hm⟩: ∃m,m=ls.length:=⟨_,rfl⟩;have hmh:=Lh hm;rw[←hm] at hl⊢;clear hm;go_enter Tryz.func23,Tryz.ntmps23;go_wp2_with fail;go_loopg [9] (m+1) (fun gk s9 wx=> ∃i:Nat,i≤m∧m - i<gk∧s9= .int .i64 (i:Int)∧Hid (G=qaI (ls.drop i) n)∧Hid (Below w.heap.size w wx))
 case atStart=>exact⟨0,by omega,by omega,rfl,Lh hG.out,Lh (Below.refl _ _)⟩
 case round=>
  obtain⟨i,hi,hgk,rfl,hI,B⟩:=hrel
  by_cases hlt:i<m
  ·have u2:decide ((i:Int)<(m:Int))=true:=dT (by omega);have u3:decide (i<m)=true:=dT hlt;have hil:i<ls.length:=by rw[←hmh.out];exact hlt
   obtain⟨b,off,rfl,hbl,x1,x2⟩:=(hrh.out.on B.out).at' i hil;have hI2:=hI.out;rw[qlz ls n i hil] at hI2;obtain⟨x,hx⟩: ∃x,Hid (x=ls.getD i lb0):=⟨_,Lh rfl⟩;rw[←hx.out] at x1 x2 hI2;have hBB: ∀ob,Hid (Below w.heap.size w (wr.alloc ob)):=fun ob=>Lh (B.out.alloc B.out.size ob)
   have he:((BS x.1).toList==(BS n).toList)=(x.1==n):=by rw[qad,qad]
   by_cases hxn:x.1=n
   ·rw[if_pos hxn] at hI2;have hR:=Lh hI2;have he2:((BS x.1).toList==(BS n).toList)=true:=by rw[he,hxn];exact beq_self_eq_true _
    clear he hxn hI hI2;go_wp2_with fail;go_ret;exact⟨by rw[hR.out];rfl,(hBB _).out⟩
   ·rw[if_neg hxn] at hI2;have hR:=Lh hI2;have he2:((BS x.1).toList==(BS n).toList)=false:=by rw[he,beq_eq_false_iff_ne];exact hxn
    clear he hxn hI hI2;go_wp2_with fail;go_roundg (gk - 1)
    case measure=>omega
    case rel=>exact⟨i+1,by omega,by omega,by go_num,hR,hBB _⟩
  ·obtain rfl:i=m:=by omega
   have u2:decide ((i:Int)<(i:Int))=false:=dF (by omega);have hF:Hid (G=[]):=Lh (by rw[hI.out,List.drop_of_length_le (by rw[←hmh.out];exact Nat.le_refl _)];rfl);clear hI;go_wp2_with fail;go_ret;exact⟨by rw[hF.out];rfl,B.out⟩
end Go.Proofs.YtdeimnnpcfncpaaGreatDoor.X
