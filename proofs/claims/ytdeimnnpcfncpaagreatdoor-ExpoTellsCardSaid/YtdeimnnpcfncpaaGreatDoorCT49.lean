/- Parts of the proof: R0 UC R2 UD. -/
import Derived.ArgAppend
import Derived.Test.YtdeimnnpcfncpaaGreatDoorCT45
import Derived.Test.YtdeimnnpcfncpaaGreatDoorCT47
import Derived.Test.YtdeimnnpcfncpaaGreatDoorCT48
set_option linter.unusedVariables false
set_option linter.unusedSimpArgs false
set_option maxRecDepth 100000
set_option maxHeartbeats 64000000
section
namespace Go.Proofs.YtdeimnnpcfncpaaGreatDoor.X
open Go Go.RowKit
theorem qdL: ∀(f:Nat) (l:List UInt8) (out:List Lb),(qiy f l out).2.2.length≤l.length
 |0,l,out=>Nat.zero_le _
 |f+1,l,out=>by
  rw[qiy]
  split
  ·show l.tail.length≤_;rw[List.length_tail];omega
  ·split
   ·have h1:=qjW 95 l;have h2:=qaC (nr 95 l);have h3:=qaC (tb (nr 95 l)).tail;rw[List.length_tail] at h3
    cases hq:quo (tb (tb (nr 95 l)).tail)with
    |none=>exact Nat.zero_le _
    |some vr=>
     obtain⟨v,u⟩:=vr;obtain⟨q1,q2⟩:=qn9 hq;have h4:=qaC u;dsimp only
     split
     ·exact Nat.zero_le _
     ·split
      ·have h5:=qaC (tb u).tail;rw[List.length_tail] at h5;have:=qdL f (tb (tb u).tail) (out++[(nm 95 l,v)]);omega
      ·split
       ·have:=qdL f (tb u) (out++[(nm 95 l,v)]);omega
       ·exact Nat.zero_le _
   ·exact Nat.zero_le _
theorem qm8 (l:List UInt8):(wd l).length≤l.length:=(List.takeWhile_prefix _).length_le
theorem qlY (l:List UInt8):(qd2 l).length≤l.length:=by
 have a1:=qaC l;have a2:=qjW 58 (tb l);have a3:=qaC (nr 58 (tb l));unfold qd2
 split
 ·have b1:=qdL ((tb (nr 58 (tb l))).tail.length+1) (tb (tb (nr 58 (tb l))).tail) [];have b2:=qaC (tb (nr 58 (tb l))).tail;rw[List.length_tail] at b2;have b3:=qaC (qb6 (tb (nr 58 (tb l))).tail).2.2;have b4:=qm8 (tb (qb6 (tb (nr 58 (tb l))).tail).2.2)
  change (qb6 (tb (nr 58 (tb l))).tail).2.2.length≤_ at b1
  omega
 ·have b2:=qaC (tb (nr 58 (tb l)));have b4:=qm8 (tb (tb (nr 58 (tb l))));omega
end Go.Proofs.YtdeimnnpcfncpaaGreatDoor.X
end
section
namespace Go.Proofs.YtdeimnnpcfncpaaGreatDoor.X
open Go Go.RowKit Go.Shelf
theorem qrQ (l:List UInt8) (e n:Int) (b:Bdy) (h:qaE 0 (L.linesL l) qcC=(e,n,b)) (hl:l.length≤65536) (hv: ∀y∈L.linesL l,y.length≤780) (W:World) (hG:EGlb W):Calls Tryz.prog 32 #[.string (BS l)] W fun r w'=>
 (∃a1 n1 c1 a2 c2 a3 c3,r= .returned (.tuple #[.agg #[.slice a1 n1 c1,.slice a2 b.t.length c2,.slice a3 b.h.length c3],.int .i64 n,.int .i64 e])∧qaH w' (.slice a2 b.t.length c2) b.t∧qaH w' (.slice a3 b.h.length c3) b.h)∧Below W.heap.size W w':=by
 refine(callsIn_wide.1 (qgP l hl (fun y hy=>qgr (.inl (Nat.le_trans (qlY y) (hv y hy)))) W hG e n b h)).mono ?_;rintro r w' ⟨⟨sv,tv,hv,rfl,⟨⟨ps,q1,q2,q3⟩,q4,q5⟩⟩,hb⟩;have LT:=qaH.of_own q4;have LR:=qaH.of_own q5;obtain⟨a1,c1,rfl⟩:=qae q2;obtain⟨a2,c2,rfl⟩:=qae q4;obtain⟨a3,c3,rfl⟩:=qae q5;exact⟨⟨_,_,_,_,_,_,_,rfl,LT,LR⟩,hb⟩
theorem expoTells_any (a:Option Addr) (c:Nat) (l t0:List UInt8) (w:World) (hr:Go.Proofs.YtdeimnnpcfncpaaGreatDoor.Row w (.slice a l.length c) (l.map fun c=>Value.int .u8 (c.toNat:Int))) (hlc:l.length≤c) (hlm:l.length≤maxLen) (hG:EGlb w) (hT:L.U8 w):
 Calls Tryz.prog 12 #[.slice a l.length c,.string (BS t0)] w fun e w'=>e= .returned (.bool true)∧Below w.heap.size w w':=by
 have GG:=Lh (fun W (hb:Below w.heap.size w W)=>hG.on hb);have GT:=Lh (fun W (hb:Below w.heap.size w W)=>hT.on (by have:=hG.big;omega) hb);have hz:=qac t0;have hbig:=hG.big;have hA:=Lh (qks w hG);have hrh:=Lh hr;clear hG hr hT;obtain⟨n,hn⟩: ∃n,n=l.length:=⟨_,rfl⟩;have hnh:=Lh hn;rw[←hn] at hlc hlm⊢;clear hn;obtain⟨k,hk⟩: ∃k:Nat,k=min n 20:=⟨_,rfl⟩;have hkm:min (n:Int) 20=(k:Int):=by omega
 have hkn:k≤n:=by omega
 have hk20:k≤20:=by omega
 have hkc:decide (k≤c)=true:=dT (by omega);obtain⟨j,hj⟩: ∃j:Nat,j=min t0.length 50:=⟨_,rfl⟩;have hjm:min ((BS t0).size:Int) 50=(j:Int):=by omega
 have hjm':min (t0.length:Int) 50=(j:Int):=by omega
 have hj50:j≤50:=by omega
 have hjc:decide (j≤(BS t0).size)=true:=dT (by omega);go_enter Tryz.func12,Tryz.ntmps12;go_wp2_with fail;refine hA.out.mono ?_;rintro e w1 ⟨rfl,B1⟩;replace B1:=Lh B1;clear hA;go_wp2_with fail;obtain⟨t1,ht1⟩: ∃t1,slash (t0.take (min t0.length 50))=t1:=⟨_,rfl⟩;have l1:t1.length≤50:=by rw[←ht1,qiS,List.length_take];omega
 have n1: ∀c∈(BS t1).data.toList,c≠92:=by
  rw[show(BS t1).data.toList=t1 by simp[BS],←ht1];exact qmt _
 have c1:Calls Tryz.prog 24 #[.string (BS (t0.take (min t0.length 50))),.string ⟨#[92]⟩,.string ⟨#[47]⟩] w1 fun e w'=>e= .returned (.string (BS (slash (t0.take (min t0.length 50)))))∧Below w1.heap.size w1 w':=
  qki 92 [47] (t0.take (min t0.length 50)) (by decide) (by rw[List.length_take];omega) (by decide) w1 (GG.out _ B1.out)
 rw[←qgA t0 _ (by omega),ht1] at c1;have n1h:=Lh n1;clear n1 ht1;refine c1.mono ?_;rintro e w2 ⟨rfl,Bx⟩;have B2:=Lh (B1.out.trans (Bx.mono B1.out.size));clear Bx c1 B1 hjm hjm' hj50 hjc hj;have c2:=Lh (L.tov_any (BS t1) (by rw[qac];omega) n1h.out w2 (GT.out _ B2.out) (by have:=B2.out.size;omega));clear n1h;have z1:=qac t1;go_wp2_with fail;refine c2.out.mono ?_;rintro e w3 ⟨⟨u,rfl,hgq,hus⟩,Bx⟩;have B3:=Lh (B2.out.trans (Bx.mono B2.out.size));clear Bx c2 B2;obtain⟨tu,htu⟩: ∃tu,u.data.toList=tu:=⟨_,rfl⟩;have hu:u=BS tu:=by rw[←htu,qqm]
 subst hu;have l2:tu.length≤100:=by rw[qac,qac] at hus;omega
 rw[htu] at hgq;clear hus htu;have c3:=Lh (qiZ tu w3);have z2:=qac tu;go_wp2_with fail;refine c3.out.mono ?_;rintro e w4 ⟨rfl,Bx⟩;have B4:=Lh (B3.out.trans (Bx.mono B3.out.size));have l3:=Nat.le_trans (qaC tu) l2;have hen:=Lh (fun x=>qry hgq x);clear Bx c3 B3 hgq;obtain⟨t,ht⟩: ∃t,tb tu=t:=⟨_,rfl⟩;rw[ht] at l3 hen⊢;clear ht l2 l1 z1 z2;go_wp2_with fail;rw[←hk];obtain⟨W0,hW0,I0⟩:=qpf w w4 B4.out;rw[←hW0];replace I0:=Lh I0;clear hW0 B4 hk hkm;generalize w4.heap.size=N at I0⊢;go_loopg [8,9,10,43] (k+1) (fun gk s8 s9 s10 s43 wx=> ∃(i:Nat) (es:List En) (ts hs:List Lb) (acc:List UInt8) (wn:Nat) (a8 a9:Option Addr) (c8 c9:Nat),i≤k∧k - i<gk∧s43= .int .i64 (i:Int)∧s10= .int .i64 (wn:Int)∧s8= .slice a8 ts.length c8∧s9= .slice a9 hs.length c9∧wn≤i∧ts.length≤i∧hs.length≤i∧acc.length≤220*i∧Hid (TlP t l i es ts hs acc wn)∧Hid (TlI w N (N+1+1) ts hs acc s8 s9 wx))
 case atStart=>exact⟨0,[],[],[],[],0,none,none,0,0,by omega,by omega,by go_num,by go_num,rfl,rfl,by omega,by simp,by simp,by simp,Lh (TlP.start t l),I0⟩
 case round=>
  clear I0;obtain⟨i,es,ts,hs,acc,wn,a8,a9,c8,c9,hi,hgk,rfl,rfl,rfl,rfl,hwn,htl,hhl,hal,P,I⟩:=hrel;obtain⟨gk0,hg0⟩: ∃g,g=gk:=⟨_,rfl⟩;subst hg0
  by_cases hlt:i<k
  ·have hil:i<l.length:=by rw[←hnh.out];omega
   obtain⟨x,hx⟩: ∃x,Hid (x=l.getD i 0):=⟨_,Lh rfl⟩
   obtain⟨b,off,rfl,y1⟩: ∃b off,a=some ⟨b,off,none⟩∧wr.cell? ⟨b,off+i,none⟩=some (.int .u8 (x.toNat:Int)):=by
    rcases hrh.out with ⟨_,_,_,h1,h2⟩|⟨b,off,cap,h1,h2,h3,h4,h5⟩
    ·have:l=[]:=by simpa using h2
     rw[this] at hil;simp at hil
    ·injection h1 with h6 _ _
     have hb:=I.out.b;refine⟨b,off,h6,(hb.cell (p:=⟨b,off+i,none⟩) h2).trans ((h5 i (by simpa using hil)).trans ?_)⟩;rw[hx.out,List.getD_eq_getElem?_getD,List.getElem?_eq_getElem hil];simp
   have u2:decide ((i:Int)<(k:Int))=true:=dT (by omega);have u3:decide (i<k)=true:=dT hlt;have x256:=x.toNat_lt;obtain⟨m8,hm8⟩: ∃m,Hid (x.toNat%8=m):=⟨_,Lh rfl⟩;have l8:m8<8:=by have:=hm8.out;omega
   have e8:((x.toNat:Int)%8)=(m8:Int):=by have:=hm8.out;omega
   have d8:decide (m8<8)=true:=dT l8;have d8':decide ((m8:Int)<8)=true:=dT (by omega);have y2:=I.out.n0.cell m8 l8;have hA:=qsL x;obtain⟨nm,hnm⟩: ∃nm,Hid (qb5.getD m8 []=nm):=⟨_,Lh rfl⟩;rw[hnm.out] at y2;obtain⟨q,hq⟩: ∃q,Hid (x.toNat/16=q):=⟨_,Lh rfl⟩;have e16:((x.toNat:Int)/16)=(q:Int):=by have:=hq.out;omega
   have e16':((x.toNat:Int)/2^4)=(q:Int):=by have:=hq.out;omega
   obtain⟨m5,hm5⟩: ∃m,Hid (q%5=m):=⟨_,Lh rfl⟩;have l5:m5<5:=by have:=hm5.out;omega
   have e5:((q:Int)%5)=(m5:Int):=by have:=hm5.out;omega
   have d5:decide (m5<5)=true:=dT l5;have d5':decide ((m5:Int)<5)=true:=dT (by omega);have y3:=I.out.n1.cell m5 l5;obtain⟨kd,hkd⟩: ∃kd,Hid (qaD.getD m5 []=kd):=⟨_,Lh rfl⟩;rw[hkd.out] at y3
   by_cases hty:x.toNat/8%2=0
   ·have he:Hid (qhA t (l.getD i 0)=(true,(nm,kd))):=Lh (by
     rw[←hx.out];unfold qhA
     rw[if_pos hty,hm8.out,hnm.out,hq.out,hm5.out,hkd.out])
    rw[hty] at hA;have hA':bits .and .u8 (x.toNat:Int) 8=0:=hA;clear hA hty;go_wp2_with fail;have TI:=Lh (qaH.of_own I.out.t);obtain⟨wo,hwo⟩: ∃W,W=wr:=⟨_,rfl⟩;subst hwo;clear y1 y2 y3 e16 e16' e5 e8 d8 d8' d5 d5' hA';go_loopg [14,65] (ts.length+1) (fun gk s14 s65 wx=> ∃j:Nat,j≤ts.length∧ts.length - j<gk∧s65= .int .i64 (j:Int)∧s14= .bool (qa6 (ts.take j) nm)∧Hid (Below wo.heap.size wo wx))
    case atStart=>exact⟨0,by omega,by omega,by go_num,rfl,Lh (Below.refl _ _)⟩
    case round=>
     obtain⟨j,hj,hgj,rfl,rfl,BJ⟩:=hrel
     by_cases hjt:j<ts.length
     ·obtain⟨bb,oo,rfl,hbl,z1,z2⟩:=(TI.out.on BJ.out).at' j hjt;have u4:decide ((j:Int)<(ts.length:Int))=true:=dT (by omega);have u5:decide (j<ts.length)=true:=dT hjt;have hht:=Lh (qhn ts nm j hjt);obtain⟨p,hp⟩: ∃p,Hid (ts.getD j lb0=p):=⟨_,Lh rfl⟩;rw[hp.out] at z1 z2 hht;obtain⟨bq,hbq⟩: ∃bq,(p.1==nm)=bq:=⟨_,rfl⟩;have tn:((BS p.1).toList==(BS nm).toList)=bq:=by rw[qab,qab];exact hbq
      have hbqh:=Lh hbq;have hBB: ∀ob,Hid (Below wo.heap.size wo (wr.alloc ob)):=fun ob=>Lh (BJ.out.alloc BJ.out.size ob)
      clear hbq BJ
      cases hth:qa6 (ts.take j) nm with
      |true=>
       rw[hth] at hht;clear hth;go_wp2_with fail;go_roundg (gk - 1)
       case measure=>omega
       case rel=>exact⟨j+1,by omega,by omega,by go_num,by rw[hht.out];rfl,hBB _⟩
      |false=>
       rw[hth] at hht;clear hth;go_wp2_with fail;go_roundg (gk - 1)
       case measure=>omega
       case rel=>exact⟨j+1,by omega,by omega,by go_num,by rw[hht.out,hbqh.out];rfl,hBB _⟩
     ·obtain rfl:j=ts.length:=by omega
      rw[List.take_of_length_le (Nat.le_refl _)];have u4:decide ((ts.length:Int)<(ts.length:Int))=false:=dF (by omega);have bn:(BS nm).size≤3:=by rw[qac,←hnm.out,←hm8.out];exact(qbO (qdX x)).2
      have bk:(BS kd).size≤9:=by rw[qac,←hkd.out,←hm5.out,←hq.out];exact qd9 (qgk x)
      have ln:nm.length≤3:=by rw[←qac];exact bn
      have lk:kd.length≤9:=by rw[←qac];exact bk
      have hl9:=qi3 nm kd ln lk;have P2:=Lh (P.out.type hil he.out);have I2:=Lh (I.out.on BJ.out);have cw:=L.ws_k w.heap.size (N+1+1) acc (BS (qax (true,(nm,kd))++[10])) (by rw[qac];omega) wr I2.out.d I2.out.b.size;rw[←qeL] at cw;have cwh:=Lh cw;clear cw P I BJ TI hx he hnm hkd hm8 hm5 hq x256 hjt hgj hj u4;rcases(show(qa6 ts nm=true∧wn=0)∨(qa6 ts nm=true∧wn≠0)∨qa6 ts nm=false by cases qa6 ts nm<;>simp<;>omega)with ⟨hth,hw0⟩|⟨hth,hw0⟩|hth
      all_goals rw[hth] at P2⊢
      case inl=>
       subst hw0;have P3:=Lh (show TlP t l (i+1) (es++[(true,(nm,kd))]) (ts++[(nm,kd)]) hs (acc++(qax (true,(nm,kd))++[10])) (i+1)from P2.out);clear hth P2;go_wp2_with fail;refine cwh.out.mono ?_;rintro e w5 ⟨rfl,hd5,hb5,ho5⟩;have I3:=Lh (I2.out.write hd5 hb5 ho5);rw[qeL,show(BS (qax (true,(nm,kd))++[10])).data.toList=qax (true,(nm,kd))++[10] by simp[BS]] at I3;clear hd5 hb5 ho5 cwh I2;have hBs:=I3.out.b.size;go_wp2_with (at_builtin;go_must (refine qcT rfl (.tmp 84) (.tmp 88) 63 rfl 2 #[.string (BS nm),.string (BS kd)] rfl (by decide) w.heap.size (.agg #[.string ⟨#[]⟩,.string ⟨#[]⟩]) 32 (by kernel_rfl) qej rfl _ ts.length (qaa ts) rfl rfl I3.out.t (by intro u hu;simp at hu;rcases hu with rfl|rfl<;>rfl) (by decide) (by omega) hBs ?_);rintro v2 w6 hown2 hb6 hs6 hk6 _;have I4:=Lh (I3.out.appT (x:=(nm,kd)) hown2 hb6 hk6);clear hown2 hb6 hs6 hk6 I3 hBs);obtain⟨a6,c6,rfl⟩:=qae I4.out.t;go_roundg (gk0 - 1)
       case measure=>omega
       case rel=>exact⟨i+1,_,_,_,_,i+1,a6,a9,c6,c9,by omega,by omega,by go_num,by go_num,rfl,rfl,by omega,by rw[List.length_append];simp;omega,by omega,by rw[List.length_append];omega,P3,I4⟩
      case inr.inl=>
       have P3:=Lh (show TlP t l (i+1) (es++[(true,(nm,kd))]) (ts++[(nm,kd)]) hs (acc++(qax (true,(nm,kd))++[10])) wn from by have:=P2.out;rwa[if_pos hw0] at this);have u7:((wn:Int)==0)=false:=by simpa using hw0
       clear hth P2;go_wp2_with fail;refine cwh.out.mono ?_;rintro e w5 ⟨rfl,hd5,hb5,ho5⟩;have I3:=Lh (I2.out.write hd5 hb5 ho5);rw[qeL,show(BS (qax (true,(nm,kd))++[10])).data.toList=qax (true,(nm,kd))++[10] by simp[BS]] at I3;clear hd5 hb5 ho5 cwh I2;have hBs:=I3.out.b.size;go_wp2_with (at_builtin;go_must (refine qcT rfl (.tmp 84) (.tmp 88) 63 rfl 2 #[.string (BS nm),.string (BS kd)] rfl (by decide) w.heap.size (.agg #[.string ⟨#[]⟩,.string ⟨#[]⟩]) 32 (by kernel_rfl) qej rfl _ ts.length (qaa ts) rfl rfl I3.out.t (by intro u hu;simp at hu;rcases hu with rfl|rfl<;>rfl) (by decide) (by omega) hBs ?_);rintro v2 w6 hown2 hb6 hs6 hk6 _;have I4:=Lh (I3.out.appT (x:=(nm,kd)) hown2 hb6 hk6);clear hown2 hb6 hs6 hk6 I3 hBs);obtain⟨a6,c6,rfl⟩:=qae I4.out.t;go_roundg (gk0 - 1)
       case measure=>omega
       case rel=>exact⟨i+1,_,_,_,_,wn,a6,a9,c6,c9,by omega,by omega,by go_num,by go_num,rfl,rfl,by omega,by rw[List.length_append];simp;omega,by omega,by rw[List.length_append];omega,P3,I4⟩
      case inr.inr=>
       have P3:=Lh (show TlP t l (i+1) (es++[(true,(nm,kd))]) (ts++[(nm,kd)]) hs (acc++(qax (true,(nm,kd))++[10])) wn from by
        have:=P2.out
        by_cases hw0:wn=0
        ·subst hw0;exact this
        ·rwa[if_pos hw0] at this)
       clear hth P2;go_wp2_with fail;refine cwh.out.mono ?_;rintro e w5 ⟨rfl,hd5,hb5,ho5⟩;have I3:=Lh (I2.out.write hd5 hb5 ho5);rw[qeL,show(BS (qax (true,(nm,kd))++[10])).data.toList=qax (true,(nm,kd))++[10] by simp[BS]] at I3;clear hd5 hb5 ho5 cwh I2;have hBs:=I3.out.b.size;go_wp2_with (at_builtin;go_must (refine qcT rfl (.tmp 84) (.tmp 88) 63 rfl 2 #[.string (BS nm),.string (BS kd)] rfl (by decide) w.heap.size (.agg #[.string ⟨#[]⟩,.string ⟨#[]⟩]) 32 (by kernel_rfl) qej rfl _ ts.length (qaa ts) rfl rfl I3.out.t (by intro u hu;simp at hu;rcases hu with rfl|rfl<;>rfl) (by decide) (by omega) hBs ?_);rintro v2 w6 hown2 hb6 hs6 hk6 _;have I4:=Lh (I3.out.appT (x:=(nm,kd)) hown2 hb6 hk6);clear hown2 hb6 hs6 hk6 I3 hBs);obtain⟨a6,c6,rfl⟩:=qae I4.out.t;go_roundg (gk0 - 1)
       case measure=>omega
       case rel=>exact⟨i+1,_,_,_,_,wn,a6,a9,c6,c9,by omega,by omega,by go_num,by go_num,rfl,rfl,by omega,by rw[List.length_append];simp;omega,by omega,by rw[List.length_append];omega,P3,I4⟩
   ·have he:Hid (qhA t (l.getD i 0)=(false,(nm,t))):=Lh (by
     rw[←hx.out];unfold qhA
     rw[if_neg hty,hm8.out,hnm.out])
    rw[show x.toNat/8%2=1 by omega] at hA;have hA':bits .and .u8 (x.toNat:Int) 8=8:=hA;clear hA hty;go_wp2_with fail;have TI:=Lh (qaH.of_own I.out.h);obtain⟨wo,hwo⟩: ∃W,W=wr:=⟨_,rfl⟩;subst hwo;clear y1 y2 y3 e16 e16' e5 e8 d8 d8' d5 d5' hA';go_loopg [14,92] (hs.length+1) (fun gk s14 s65 wx=> ∃j:Nat,j≤hs.length∧hs.length - j<gk∧s65= .int .i64 (j:Int)∧s14= .bool (qa6 (hs.take j) nm)∧Hid (Below wo.heap.size wo wx))
    case atStart=>exact⟨0,by omega,by omega,by go_num,rfl,Lh (Below.refl _ _)⟩
    case round=>
     obtain⟨j,hj,hgj,rfl,rfl,BJ⟩:=hrel
     by_cases hjt:j<hs.length
     ·obtain⟨bb,oo,rfl,hbl,z1,z2⟩:=(TI.out.on BJ.out).at' j hjt;have u4:decide ((j:Int)<(hs.length:Int))=true:=dT (by omega);have u5:decide (j<hs.length)=true:=dT hjt;have hht:=Lh (qhn hs nm j hjt);obtain⟨p,hp⟩: ∃p,Hid (hs.getD j lb0=p):=⟨_,Lh rfl⟩;rw[hp.out] at z1 z2 hht;obtain⟨bq,hbq⟩: ∃bq,(p.1==nm)=bq:=⟨_,rfl⟩;have tn:((BS p.1).toList==(BS nm).toList)=bq:=by rw[qab,qab];exact hbq
      have hbqh:=Lh hbq;have hBB: ∀ob,Hid (Below wo.heap.size wo (wr.alloc ob)):=fun ob=>Lh (BJ.out.alloc BJ.out.size ob)
      clear hbq BJ
      cases hth:qa6 (hs.take j) nm with
      |true=>
       rw[hth] at hht;clear hth;go_wp2_with fail;go_roundg (gk - 1)
       case measure=>omega
       case rel=>exact⟨j+1,by omega,by omega,by go_num,by rw[hht.out];rfl,hBB _⟩
      |false=>
       rw[hth] at hht;clear hth;go_wp2_with fail;go_roundg (gk - 1)
       case measure=>omega
       case rel=>exact⟨j+1,by omega,by omega,by go_num,by rw[hht.out,hbqh.out];rfl,hBB _⟩
     ·obtain rfl:j=hs.length:=by omega
      rw[List.take_of_length_le (Nat.le_refl _)];have u4:decide ((hs.length:Int)<(hs.length:Int))=false:=dF (by omega);have bn:(BS nm).size≤3:=by rw[qac,←hnm.out,←hm8.out];exact(qbO (qdX x)).2
      have bk:(BS (qcE t)).size≤200:=by rw[qac];have:=qhq t;omega
      have ln:nm.length≤3:=by rw[←qac];exact bn
      have hl9:=qiC nm t ln l3;have P2:=Lh (P.out.help hil he.out);have I2:=Lh (I.out.on BJ.out);have cw:=fun W (hW:TlI w N (N+1+1) ts hs acc (Value.slice a8 ts.length c8) (Value.slice a9 hs.length c9) W)=>L.ws_k w.heap.size (N+1+1) acc (BS (qax (false,(nm,t))++[10])) (by rw[qac];omega) W hW.d hW.b.size
      rw[←qeM] at cw;have cwh:=Lh cw;have cr:Calls Tryz.prog 24 #[.string (BS t),.string ⟨#[10]⟩,.string ⟨#[92,110]⟩] wr fun e w'=>e= .returned (.string (BS (qcE t)))∧Below wr.heap.size wr w':=qki 10 [92,110] t (by decide) (by omega) (by decide) wr (GG.out _ I2.out.b)
      have crh:=Lh cr;clear cw cr P I BJ TI hx he hnm hkd hm8 hm5 hq x256 hjt hgj hj u4;rcases(show(qa6 hs nm=true∧wn=0)∨(qa6 hs nm=true∧wn≠0)∨qa6 hs nm=false by cases qa6 hs nm<;>simp<;>omega)with ⟨hth,hw0⟩|⟨hth,hw0⟩|hth
      all_goals rw[hth] at P2⊢
      case inl=>
       subst hw0;have P3:=Lh (show TlP t l (i+1) (es++[(false,(nm,t))]) ts (hs++[(nm,t)]) (acc++(qax (false,(nm,t))++[10])) (i+1)from P2.out);clear hth P2;go_wp2_with fail;refine crh.out.mono ?_;rintro e w4' ⟨rfl,hb4⟩;replace I2:=Lh (I2.out.on hb4);clear hb4 crh;go_wp2_with fail;refine(cwh.out _ I2.out).mono ?_;rintro e w5 ⟨rfl,hd5,hb5,ho5⟩;have I3:=Lh (I2.out.write hd5 hb5 ho5);rw[qeM,show(BS (qax (false,(nm,t))++[10])).data.toList=qax (false,(nm,t))++[10] by simp[BS]] at I3;clear hd5 hb5 ho5 cwh I2;have hBs:=I3.out.b.size;go_wp2_with (at_builtin;go_must (refine qcT rfl (.tmp 112) (.tmp 116) 64 rfl 2 #[.string (BS nm),.string (BS t)] rfl (by decide) w.heap.size (.agg #[.string ⟨#[]⟩,.string ⟨#[]⟩]) 32 (by kernel_rfl) qeb rfl _ hs.length (qaa hs) rfl rfl I3.out.h (by intro u hu;simp at hu;rcases hu with rfl|rfl<;>rfl) (by decide) (by omega) hBs ?_);rintro v2 w6 hown2 hb6 hs6 hk6 _;have I4:=Lh (I3.out.appH (x:=(nm,t)) hown2 hb6 hk6);clear hown2 hb6 hs6 hk6 I3 hBs);obtain⟨a6,c6,rfl⟩:=qae I4.out.h;go_roundg (gk0 - 1)
       case measure=>omega
       case rel=>exact⟨i+1,_,_,_,_,i+1,a8,a6,c8,c6,by omega,by omega,by go_num,by go_num,rfl,rfl,by omega,by omega,by rw[List.length_append];simp;omega,by rw[List.length_append];omega,P3,I4⟩
      case inr.inl=>
       have P3:=Lh (show TlP t l (i+1) (es++[(false,(nm,t))]) ts (hs++[(nm,t)]) (acc++(qax (false,(nm,t))++[10])) wn from by have:=P2.out;rwa[if_pos hw0] at this);have u7:((wn:Int)==0)=false:=by simpa using hw0
       clear hth P2;go_wp2_with fail;refine crh.out.mono ?_;rintro e w4' ⟨rfl,hb4⟩;replace I2:=Lh (I2.out.on hb4);clear hb4 crh;go_wp2_with fail;refine(cwh.out _ I2.out).mono ?_;rintro e w5 ⟨rfl,hd5,hb5,ho5⟩;have I3:=Lh (I2.out.write hd5 hb5 ho5);rw[qeM,show(BS (qax (false,(nm,t))++[10])).data.toList=qax (false,(nm,t))++[10] by simp[BS]] at I3;clear hd5 hb5 ho5 cwh I2;have hBs:=I3.out.b.size;go_wp2_with (at_builtin;go_must (refine qcT rfl (.tmp 112) (.tmp 116) 64 rfl 2 #[.string (BS nm),.string (BS t)] rfl (by decide) w.heap.size (.agg #[.string ⟨#[]⟩,.string ⟨#[]⟩]) 32 (by kernel_rfl) qeb rfl _ hs.length (qaa hs) rfl rfl I3.out.h (by intro u hu;simp at hu;rcases hu with rfl|rfl<;>rfl) (by decide) (by omega) hBs ?_);rintro v2 w6 hown2 hb6 hs6 hk6 _;have I4:=Lh (I3.out.appH (x:=(nm,t)) hown2 hb6 hk6);clear hown2 hb6 hs6 hk6 I3 hBs);obtain⟨a6,c6,rfl⟩:=qae I4.out.h;go_roundg (gk0 - 1)
       case measure=>omega
       case rel=>exact⟨i+1,_,_,_,_,wn,a8,a6,c8,c6,by omega,by omega,by go_num,by go_num,rfl,rfl,by omega,by omega,by rw[List.length_append];simp;omega,by rw[List.length_append];omega,P3,I4⟩
      case inr.inr=>
       have P3:=Lh (show TlP t l (i+1) (es++[(false,(nm,t))]) ts (hs++[(nm,t)]) (acc++(qax (false,(nm,t))++[10])) wn from by
        have:=P2.out
        by_cases hw0:wn=0
        ·subst hw0;exact this
        ·rwa[if_pos hw0] at this)
       clear hth P2;go_wp2_with fail;refine crh.out.mono ?_;rintro e w4' ⟨rfl,hb4⟩;replace I2:=Lh (I2.out.on hb4);clear hb4 crh;go_wp2_with fail;refine(cwh.out _ I2.out).mono ?_;rintro e w5 ⟨rfl,hd5,hb5,ho5⟩;have I3:=Lh (I2.out.write hd5 hb5 ho5);rw[qeM,show(BS (qax (false,(nm,t))++[10])).data.toList=qax (false,(nm,t))++[10] by simp[BS]] at I3;clear hd5 hb5 ho5 cwh I2;have hBs:=I3.out.b.size;go_wp2_with (at_builtin;go_must (refine qcT rfl (.tmp 112) (.tmp 116) 64 rfl 2 #[.string (BS nm),.string (BS t)] rfl (by decide) w.heap.size (.agg #[.string ⟨#[]⟩,.string ⟨#[]⟩]) 32 (by kernel_rfl) qeb rfl _ hs.length (qaa hs) rfl rfl I3.out.h (by intro u hu;simp at hu;rcases hu with rfl|rfl<;>rfl) (by decide) (by omega) hBs ?_);rintro v2 w6 hown2 hb6 hs6 hk6 _;have I4:=Lh (I3.out.appH (x:=(nm,t)) hown2 hb6 hk6);clear hown2 hb6 hs6 hk6 I3 hBs);obtain⟨a6,c6,rfl⟩:=qae I4.out.h;go_roundg (gk0 - 1)
       case measure=>omega
       case rel=>exact⟨i+1,_,_,_,_,wn,a8,a6,c8,c6,by omega,by omega,by go_num,by go_num,rfl,rfl,by omega,by omega,by rw[List.length_append];simp;omega,by rw[List.length_append];omega,P3,I4⟩
  ·obtain rfl:i=k:=by omega
   have u2:decide ((i:Int)<(i:Int))=false:=dF (by omega)
   have hok: ∀e∈es,qmT e:=by
    intro e he;rw[P.out.1] at he;obtain⟨x,_,rfl⟩:=List.mem_map.1 he;exact hen.out x
   have hpar:=qf8 es hok;rw[←P.out.2.2.1,←P.out.2.2.2,P.out.2.1] at hpar
   have hline: ∀y∈L.linesL acc,y.length≤780:=by
    rw[P.out.2.2.1,qcD _ (fun l hl=>by obtain⟨e,he,rfl⟩:=List.mem_map.1 hl;exact qke e (hok e he))];intro y hy;obtain⟨e,he,rfl⟩:=List.mem_map.1 hy;rw[P.out.1] at he;obtain⟨x,_,rfl⟩:=List.mem_map.1 he;have:=qp5 l3 x;omega
   have hcl:=Lh (fun e n b h=>qrQ acc e n b h (by omega) hline);have cs:=Lh (L.str_k w.heap.size (N+1+1) acc (BS acc) rfl wr I.out.d I.out.b.size);clear hok hline hen P hlt hrh;go_wp2_with fail;refine cs.out.mono ?_;rintro e w5 ⟨rfl,hd5,hb5,ho5⟩;have I5:=Lh (I.out.write hd5 hb5 ho5);clear hd5 hb5 ho5 cs I
   by_cases hw0:wn=0
   ·subst hw0;rw[if_pos rfl] at hpar;have cp:=Lh (hcl.out _ _ _ hpar w5 (GG.out _ I5.out.b));clear hpar hcl;go_wp2_with fail;refine cp.out.mono ?_;rintro e w6 ⟨⟨a1,n1,d1,a2,d2,a3,d3,rfl,LT,LH⟩,Bx⟩;replace I5:=Lh (I5.out.on Bx);replace LT:=Lh LT;replace LH:=Lh LH;clear Bx cp;go_wp2_with fail;have G6:Bd3 w6.heap.size (.slice a1 n1 d1) (.slice a2 ts.length d2) (.slice a3 hs.length d3) (w6.alloc (.cells #[.slice a1 n1 d1,.slice a2 ts.length d2,.slice a3 hs.length d3] 66)):=World.alloc_heap_new w6 _;have By:Below w6.heap.size w6 (w6.alloc (.cells #[.slice a1 n1 d1,.slice a2 ts.length d2,.slice a3 hs.length d3] 66)):=(Below.refl _ _).alloc (Nat.le_refl _) _;replace I5:=Lh (I5.out.on By);replace LT:=Lh (LT.out.on By);replace LH:=Lh (LH.out.on By);clear By;generalize w6.alloc (.cells #[.slice a1 n1 d1,.slice a2 ts.length d2,.slice a3 hs.length d3] 66)=w7 at*;generalize w6.heap.size=D6 at*;have LT8:=Lh (qaH.of_own I5.out.t);have LH8:=Lh (qaH.of_own I5.out.h);replace G6:=Lh G6;go_loopg [175] (ts.length+1) (fun gk s175 wx=> ∃j:Nat,j≤ts.length∧ts.length - j<gk∧s175= .int .i64 (j:Int)∧Hid (Below w7.heap.size w7 wx))
    case atStart=>exact⟨0,by omega,by omega,by go_num,Lh (Below.refl _ _)⟩
    case round=>
     obtain⟨j,hj,hgj,rfl,BJ⟩:=hrel
     by_cases hjt:j<ts.length
     ·have u4:decide ((j:Int)<(ts.length:Int))=true:=dT (by omega);have u5:decide (j<ts.length)=true:=dT hjt;obtain⟨b2,o2,rfl,_,z1,z2⟩:=(LT.out.on BJ.out).at' j hjt;obtain⟨b8,o8,rfl,_,y1,y2⟩:=(LT8.out.on BJ.out).at' j hjt;obtain⟨p,hp⟩: ∃p,Hid (ts.getD j lb0=p):=⟨_,Lh rfl⟩;rw[hp.out] at z1 z2 y1 y2;have g1:=(G6.out.on BJ.out).c1;have he:=fun W=>qr0 p W
      go_upto_region 41 with (fail)
      go_region;go_wp2_with fail;have BJ2:=Lh (BJ.out.drew);go_roundg (gk - 1)
      case measure=>omega
      case rel=>exact⟨j+1,by omega,by omega,by go_num,BJ2⟩
     ·obtain rfl:j=ts.length:=by omega
      have u4:decide ((ts.length:Int)<(ts.length:Int))=false:=dF (by omega);have I8:=Lh (I5.out.on BJ.out);replace G6:=Lh (G6.out.on BJ.out);replace LH:=Lh (LH.out.on BJ.out);replace LH8:=Lh (LH8.out.on BJ.out);clear BJ LT LT8 I5 hgj hj hjt;obtain⟨w8,hw8⟩: ∃W,W=wr:=⟨_,rfl⟩;subst hw8;go_wp2_with fail;go_loopg [191] (hs.length+1) (fun gk s191 wx=> ∃j:Nat,j≤hs.length∧hs.length - j<gk∧s191= .int .i64 (j:Int)∧Hid (Below w8.heap.size w8 wx))
      case atStart=>exact⟨0,by omega,by omega,by go_num,Lh (Below.refl _ _)⟩
      case round=>
       obtain⟨j,hj,hgj,rfl,BJ⟩:=hrel
       by_cases hjt:j<hs.length
       ·have u4:decide ((j:Int)<(hs.length:Int))=true:=dT (by omega);have u5:decide (j<hs.length)=true:=dT hjt;obtain⟨b2,o2,rfl,_,z1,z2⟩:=(LH.out.on BJ.out).at' j hjt;obtain⟨b8,o8,rfl,_,y1,y2⟩:=(LH8.out.on BJ.out).at' j hjt;obtain⟨p,hp⟩: ∃p,Hid (hs.getD j lb0=p):=⟨_,Lh rfl⟩;rw[hp.out] at z1 z2 y1 y2;have g1:=(G6.out.on BJ.out).c2;have he:=fun W=>qrK p W
        go_upto_region 47 with (fail)
        go_region;go_wp2_with fail;have BJ2:=Lh (BJ.out.drew);go_roundg (gk - 1)
        case measure=>omega
        case rel=>exact⟨j+1,by omega,by omega,by go_num,BJ2⟩
       ·obtain rfl:j=hs.length:=by omega
        have u4:decide ((hs.length:Int)<(hs.length:Int))=false:=dF (by omega);have B9:=Lh (I8.out.b.trans (BJ.out.mono I8.out.b.size));go_wp2_with fail;go_ret;exact⟨rfl,B9.out⟩
   ·rw[if_neg hw0] at hpar;have cp0:=hcl.out _ _ _ hpar w5 (GG.out _ I5.out.b);simp only[show qcC.t.length=0 from rfl,show qcC.h.length=0 from rfl] at cp0;have cp:=Lh cp0;clear cp0;have w7:decide ((0:Int)<(wn:Int))=true:=dT (by omega);clear hpar hcl;go_wp2_with fail;refine cp.out.mono ?_;rintro e w6 ⟨⟨a1,n1,d1,a2,d2,a3,d3,rfl,LT,LH⟩,Bx⟩;replace I5:=Lh (I5.out.on Bx);clear Bx cp;have B9:=Lh (I5.out.b.trans (((Below.refl _ _).alloc (Nat.le_refl _) (.cells #[.slice a1 n1 d1,.slice a2 0 d2,.slice a3 0 d3] 66)).mono I5.out.b.size));go_wp2_with fail;go_ret;exact⟨rfl,B9.out⟩
end Go.Proofs.YtdeimnnpcfncpaaGreatDoor.X
end
section
namespace Go.Proofs.YtdeimnnpcfncpaaGreatDoor
open Go Go.RowKit
theorem bs_self (a:ByteArray):BS a.data.toList=a:=by
 simp[BS]
end Go.Proofs.YtdeimnnpcfncpaaGreatDoor
end
section
namespace Go.Proofs.YtdeimnnpcfncpaaGreatDoor
open Go Go.RowKit Go.Shelf Go.Lib
structure TGlb (W:World):Prop where
 e:X.EGlb W
 u:L.U8 W
theorem tglb_of {W:World} (h:laidMetH Tryz.prog LaidL W) (hs:W.ShapedOpen Tryz.prog):TGlb W:=by
 refine⟨qps h hs,?_⟩;rw[MakeChecks.laidMetH_plain _ _ _ (by kernel_rfl)] at h;have e4:(Rows.laid_unicode_utf8_acceptRanges:DataW Unit)=Lib.acceptData:=by kernel_rfl
 have e3:Rows.laid_unicode_utf8_first=Lib.firstData:=by kernel_rfl
 have h9:=h.tail.tail.tail.tail.tail.tail.tail.tail.tail;have h4:=Lib.laidMet.reads h9 (.head _);have h3:=Lib.laidMet.reads h9.tail.tail.tail.tail.tail (.head _);rw[e4] at h4;rw[e3] at h3;exact utf8Tabs_of_reads (ρ:=Tryz.lays197_ren) {Tryz.lays197 with} ⟨by kernel_rfl,by kernel_rfl,by kernel_rfl,by kernel_rfl,by kernel_rfl,by kernel_rfl,by kernel_rfl⟩ h3 h4
theorem expoTells_walk (a0:Option Addr) (len0 cap0:Nat) (z0:List Int) (a1:ByteArray) (w:World) (w0:IsRow .u8 w a0 len0 cap0 z0) (_w1:a1.size≤maxLen) (hG:TGlb w):
 Calls Tryz.prog 12 #[.slice a0 len0 cap0,.string a1] w fun e w'=>e= .returned (.bool true)∧Below w.heap.size w w':=by
 obtain⟨l,rfl,hr,h1,h2⟩:=w0.bytes;have:=X.expoTells_any a0 cap0 l a1.data.toList w hr h2 h1 hG.e hG.u;rwa[bs_self] at this
end Go.Proofs.YtdeimnnpcfncpaaGreatDoor
end
