/- Parts of the proof: S8 S7 S9. -/
import Derived.Test.YtdeimnnpcfncpaaGreatDoorCR44
import Derived.Test.YtdeimnnpcfncpaaGreatDoorCR47
set_option linter.unusedVariables false
set_option linter.unusedSimpArgs false
set_option maxRecDepth 100000
set_option maxHeartbeats 64000000
namespace Go.Proofs.YtdeimnnpcfncpaaGreatDoor.X
open Go Go.RowKit
theorem head_drop (l:List UInt8) (i:Nat) (h:i<l.length):(l.drop i).head?=some (l.getD i 0):=by rw[qaY l i h];rfl
theorem qdl (l:List UInt8) (i:Nat) (h:l.length≤i):(l.drop i).head?=none:=by rw[List.drop_of_length_le h];rfl
theorem qtJ (l:List UInt8):(BS l).data.toList=l:=by simp[BS]
theorem qvr (l:List UInt8) (hl:l.length≤65536) (p:Nat) (hp:p≤l.length) (w:World):Calls Tryz.prog 190 #[.string (BS l),.int .i64 (p:Int)] w fun e w'=>
 (∃k:Nat,e= .returned (.tuple #[.string (BS (quA (l.drop p)).2.1),.int .i64 (k:Int),.int .i64 (quA (l.drop p)).1])∧((quA (l.drop p)).1=0→k=p+(quA (l.drop p)).2.2))∧Below w.heap.size w w':=by
 have hz:=qad l;have t0:decide (65536<(l.length:Int))=false:=dF (by omega);have t0':decide (65536<l.length)=false:=dF (by omega);have t1:decide ((p:Int)<0)=false:=dF (by omega);have t2:decide ((l.length:Int)<(p:Int))=false:=dF (by omega);have t2':decide (l.length<p)=false:=dF (by omega);rcases Nat.lt_or_ge p l.length with hlt|hge
 ·by_cases hq:l.getD p 0=34
  ·have hA:quA (l.drop p)=L.quF (l.drop p):=by
    unfold quA;rw[head_drop l p hlt,hq];rfl
   rw[hA];obtain⟨e,t,n,h⟩: ∃e t n,L.quF (l.drop p)=(e,t,n):=⟨_,_,_,rfl⟩;rw[h];have:=L.rquote_any (BS l) (by rw[hz];exact hl) p (by rw[hz];exact hlt) (by rw[qtJ];exact hq) e t n (by rw[qtJ];exact h) w;exact this
  ·have hA:Hid (quA (l.drop p)=(221,[],0)):=Lh (by
    unfold quA
    rw[head_drop l p hlt,if_neg (by simpa using hq)])
   obtain⟨c,hc,hB⟩:=qbG (BS l) p (by rw[hz];exact hlt);have hc34:c≠34:=by rw[←hc.out,qd5];exact hq
   have t3:((p:Int)==(l.length:Int))=false:=by rw[beq_eq_false_iff_ne];omega
   have v1:=qaJ c 34 34 rfl hc34;have v1':((c.toNat:Int) !=34)=true:=by rw[bne,v1];rfl
   clear hc hc34 hq;go_enter Tryz.func190,Tryz.ntmps190;go_wp2_with fail;go_ret3;exact⟨⟨0,by rw[hA.out];rfl,fun h=>by rw[hA.out] at h;cases h⟩,Below.refl _ _⟩
 ·obtain rfl:p=l.length:=by omega
  have hA:Hid (quA (l.drop l.length)=(221,[],0)):=Lh (by
   unfold quA
   rw[qdl l _ (Nat.le_refl _)];rfl)
  have t3:((l.length:Int)==(l.length:Int))=true:=by simp
  go_enter Tryz.func190,Tryz.ntmps190;go_wp2_with fail;go_ret3;exact⟨⟨0,by rw[hA.out];rfl,fun h=>by rw[hA.out] at h;cases h⟩,Below.refl _ _⟩
def RLI (w0:World) (out:List Lb) (v:Value) (W:World):Prop:=Below w0.heap.size w0 W∧W.ownsRow w0.heap.size 44 2 v out.length (qab out)
theorem RLI.on {w0 W W':World} {out:List Lb} {v:Value} (h:RLI w0 out v W) (hb:Below W.heap.size W W'):RLI w0 out v W':=⟨h.1.trans (hb.mono h.1.size),qaj h.2 hb⟩
theorem RLI.app {w0 W W':World} {out:List Lb} {v v2:Value} {x:Lb} (h:RLI w0 out v W) (hb:Below w0.heap.size W W') (ho:W'.ownsRow w0.heap.size 44 2 v2 (out.length+1) (qab out++qbo x)):RLI w0 (out++[x]) v2 W':=
 ⟨h.1.trans hb,by
  rw[List.length_append,show qab (out++[x])=qab out++qbo x by simp[qab]]
  exact ho⟩
theorem RLI.only {w0 W W':World} {out:List Lb} {v:Value} {q:Nat} (h:RLI w0 out v W) (hq:w0.heap.size≤q) (hne:v.ownBlock≠some q) (hb:Only q W W'):RLI w0 out v W':=by
 refine⟨h.1.trans (hb.below hq h.1.size),h.2.1,?_⟩;rcases h.2.2 with h'|⟨g,cap,cur,h1,h2,h3,h4⟩
 ·exact .inl h'
 ·refine .inr ⟨g,cap,cur,h1,h2,(hb.block g (Array.getElem?_eq_some_iff.1 h3).1 (fun e=>hne ?_)).trans h3,h4⟩;rw[h1,e];rfl
def qqo (l:List UInt8) (R:Int×List Lb×List UInt8) (w:World) (e:Ending) (w':World):Prop:=
 ∃(v:Value) (k:Nat),e= .returned (.tuple #[v,.int .i64 (k:Int),.int .i64 R.1])∧Below w.heap.size w w'∧
  (R.1=0→k≤l.length∧l.drop k=R.2.2∧w'.ownsRow w.heap.size 44 2 v R.2.1.length (qab R.2.1))∧(R.1≠0→v= .slice none 0 0)
theorem qsZ {W:World} {base n:Nat} {v:Value} {xs:List Value} (h:W.ownsRow base 44 2 v n xs):v.ownBlock≠some W.heap.size:=fun e=>by
 have:=(h.lt _ e).2;omega
theorem qdu (l:List UInt8) (i:Nat):(l.drop i).tail=l.drop (i+1):=by simp
theorem qrd (ls:List Lb) (n:List UInt8) (i:Nat) (h:ls.length≤i):qbM (ls.drop i) n=false:=by rw[List.drop_of_length_le h];rfl
theorem qlJ {l:List UInt8} (h:(quA l).1≠0):quo l=none:=by unfold quo;rw[if_neg (fun g=>h g.1)]
theorem qlt {l:List UInt8} (h:qa9 (quA l).2.1=false):quo l=none:=by unfold quo;rw[if_neg (fun g=>by rw[h] at g;cases g.2)]
theorem qoL {l:List UInt8} (h:(quA l).1=0) (h2:qa9 (quA l).2.1=true):quo l=some ((quA l).2.1,l.drop (quA l).2.2):=by unfold quo;rw[if_pos ⟨h,h2⟩]
theorem qrW {l:List UInt8} (h:(quA l).1=0):(quA l).2.2≤l.length∧(quA l).2.1.length≤l.length:=by
 unfold quA at h⊢
 by_cases hh:(l.head?==some 34)=true
 ·rw[if_pos hh] at h⊢;exact qls l h (fun e=>by rw[e] at hh;cases hh)
 ·rw[if_neg hh] at h;cases h
theorem qj6 (l:List UInt8) (hl:l.length≤65536) (i:Nat) (hi:i≤l.length) (w:World):Calls Tryz.prog 137 #[.string (BS l),.int .i64 (i:Int)] w (qqo l (qcj (l.drop i)) w):=by
 have hz:=qad l;obtain⟨p1,p2,p3⟩:=qaK l i hi;have c0:=Lh (qa8 l (by omega) i hi w);obtain⟨R,hR⟩: ∃R,Hid (qiE ((l.drop i).length+1) (tb (l.drop i)) []=R):=⟨_,Lh rfl⟩;rw[show qcj (l.drop i)=R from hR.out];have hf1:(l.drop i).length+1=l.length - i+1:=by rw[List.length_drop]
 rw[←p1,hf1] at hR;obtain⟨j0,hj0⟩: ∃j,skp l i=j:=⟨_,rfl⟩;rw[hj0] at hR p2 p3 c0;have hfu:l.length - j0<l.length - i+1:=by omega
 obtain⟨F,hF⟩: ∃F,l.length - i+1=F:=⟨_,rfl⟩;rw[hF] at hR hfu;clear hF hf1 p1 hj0;go_enter Tryz.func137,Tryz.ntmps137;go_wp2_with fail;refine c0.out.mono ?_;rintro e w1 ⟨rfl,rfl⟩;clear c0;have I0:Hid (RLI w [] (.slice none 0 0) w):=Lh ⟨Below.refl _ _,⟨rfl,.inl ⟨rfl,rfl⟩⟩⟩;go_wp2_with fail;go_loopg [1,7] F (fun gk s1 s7 wx=> ∃(j:Nat) (out:List Lb),j≤l.length∧l.length - j<gk∧l.length - j+out.length≤65536∧s1= .int .i64 (j:Int)∧Hid (qiE gk (l.drop j) out=R)∧Hid (RLI w out s7 wx))
 case atStart=>exact⟨j0,[],p3,hfu,by simp;omega,rfl,hR,I0⟩
 case round=>
  clear hR I0 hfu p2 p3;obtain⟨j,out,hj,hgk,hlo,rfl,hR,I⟩:=hrel;obtain⟨g,rfl⟩: ∃g,gk=g+1:=⟨gk - 1,by omega⟩;have hR':=hR.out;rw[qiE] at hR';obtain⟨a7,c7,rfl⟩:=qae I.out.2;rcases Nat.lt_or_ge j l.length with hlt|hge
  ·have u5:decide ((j:Int)<(l.length:Int))=true:=dT (by omega);have u6:decide (j<l.length)=true:=dT hlt;obtain⟨c,hc,hB⟩:=qbG (BS l) j (by rw[hz];exact hlt);have hcg:l.getD j 0=c:=by rw[←hc.out,qd5]
   have e1:((j:Int)==(l.length:Int))=false:=by rw[beq_eq_false_iff_ne];omega
   by_cases hc1:c=125
   ·rw[head_drop l j hlt,hcg,hc1,if_pos (by rfl)] at hR';subst hR' hc1;clear hR hc hcg;go_wp2_with fail;go_ret3;exact⟨_,j+1,rfl,I.out.1,fun _=>⟨hlt,(qdu l j).symm,I.out.2⟩,fun h=>absurd rfl h⟩
   ·rw[head_drop l j hlt,hcg,if_neg (by simpa using hc1)] at hR';have v1:=qaJ c 125 125 rfl hc1;have v1':((c.toNat:Int) !=125)=true:=by rw[bne,v1];rfl
    have cn:=Lh (fun W=>qi5 l (by omega) j hj false W);rw[show oth false=95 from rfl] at cn;obtain⟨n1,n2,n3⟩:=qiA 95 l j hj;have n4:=qmu 95 l j hj;have n5:=qiv 95 (l.drop j);rw[List.length_drop] at n5;obtain⟨k,hk⟩: ∃k,npo 95 l j=k:=⟨_,rfl⟩;rw[hk] at cn n1 n2 n3 n4;have hx:=qeU l j k;rw[n4] at hx;rw[←n1] at hR' n5;obtain⟨n,hn⟩: ∃n,nm 95 (l.drop j)=n:=⟨_,rfl⟩;rw[hn] at hx hR' n5;obtain⟨p1,p2,p3⟩:=qaK l k n3;have cs:=Lh (qa8 l (by omega) k n3);obtain⟨i2,hi2⟩: ∃i2,skp l k=i2:=⟨_,rfl⟩;rw[hi2] at p1 p2 p3 cs;rw[←p1] at hR';replace hR':=Lh hR';clear hR hc hcg n1 n4 hk hn p1 hi2 hc1;go_wp2_with fail;refine(cn.out _).mono ?_;rintro e w2 ⟨rfl,B2⟩;have I2:=Lh (I.out.on B2);clear B2 I cn u5 u6 hB v1 v1' e1;have u7:decide (j≤k)=true:=dT n2;have u8:decide (k≤l.length)=true:=dT n3;have hq:w.heap.size≤w2.heap.size:=I2.out.1.size;have hnw:=Lh (qsZ I2.out.2);have I4:=Lh (I2.out.on ((Below.refl w2.heap.size w2).alloc (Nat.le_refl _) (.cells #[.string (BS n),.string ⟨#[]⟩] 44)));have N4:Hid (LB 44 w2.heap.size n [] (w2.alloc (.cells #[.string (BS n),.string ⟨#[]⟩] 44))):=Lh (World.alloc_heap_new _ _);go_wp2_with fail;generalize w2.alloc (.cells #[.string (BS n),.string ⟨#[]⟩] 44)=w4 at I4 N4⊢;generalize w2.heap.size=q at hq hnw N4⊢;refine(cs.out _).mono ?_;rintro e w5 ⟨rfl,rfl⟩;have d0:=N4.out.c0;have cnm:=qea n (by omega) false w4;rw[show oth false=95 from rfl] at cnm;have hR2:=hR'.out;clear cs I2 hx u7 u8 hR'
    cases hnm:qam 95 n with
    |false=>
     rw[hnm] at cnm hR2;rw[if_neg (by simp)] at hR2;subst hR2;replace cnm:=Lh cnm;clear hnm;go_wp2_with fail;refine cnm.out.mono ?_;rintro e w6 ⟨rfl,B6⟩;have I6:=Lh (I4.out.on B6);clear B6 I4 cnm;go_wp2_with fail;go_ret3;exact⟨_,0,rfl,I6.out.1,fun h=>absurd h (by decide),fun _=>rfl⟩
    |true=>
     have hnp:=qda hnm;rw[hnm] at cnm hR2;replace cnm:=Lh cnm;clear hnm;go_wp2_with fail;refine cnm.out.mono ?_;rintro e w6 ⟨rfl,B6⟩;have I6:=Lh (I4.out.on B6);have N6:=Lh (N4.out.on B6);clear B6 I4 cnm N4 d0;rcases Nat.lt_or_ge i2 l.length with hlt2|hge2
     ·have e2:((i2:Int)==(l.length:Int))=false:=by rw[beq_eq_false_iff_ne];omega
      obtain⟨c2,hc2,hB2⟩:=qbG (BS l) i2 (by rw[hz];exact hlt2);have hcg2:l.getD i2 0=c2:=by rw[←hc2.out,qd5]
      by_cases h61:c2=61
      ·rw[head_drop l i2 hlt2,hcg2,h61,if_pos (by rfl),qdu] at hR2;subst h61;obtain⟨p1,p2',p3'⟩:=qaK l (i2+1) (by omega);have cs:=Lh (qa8 l (by omega) (i2+1) (by omega) w6);rw[show((i2+1:Nat):Int)=(i2:Int)+1 by omega] at cs;obtain⟨i3,hi3⟩: ∃i3,skp l (i2+1)=i3:=⟨_,rfl⟩;rw[hi3] at p1 p2' p3' cs;rw[←p1] at hR2;have cq:=Lh (qvr l hl i3 p3' w6);have hql:=Lh (fun h=>qrW (l:=l.drop i3) h);have hqn1:=Lh (fun h=>qlJ (l:=l.drop i3) h);have hqn2:=Lh (fun h=>qlt (l:=l.drop i3) h);have hqs:=Lh (fun h h2=>qoL (l:=l.drop i3) h h2);obtain⟨qe,qv,qn,hqa⟩: ∃qe qv qn,quA (l.drop i3)=(qe,qv,qn):=⟨_,_,_,rfl⟩;rw[hqa] at cq hql hqn1 hqn2 hqs;simp only at cq hql hqn1 hqn2 hqs;replace hR2:=Lh hR2;clear hc2 hcg2 p1 hi3 hqa;go_wp2_with fail;refine cs.out.mono ?_;rintro e w7 ⟨rfl,rfl⟩;go_wp2_with fail;refine cq.out.mono ?_;rintro e w7 ⟨⟨k3,rfl,hk3⟩,B7⟩;have hk3h:=Lh hk3;have I7:=Lh (I6.out.on B7);have N7:=Lh (N6.out.on B7);clear B7 I6 N6 cs cq hB2 e2 hk3
       by_cases hqe:qe=0
       ·subst hqe;have hk3:=hk3h.out rfl;have hqll:=hql.out rfl;rw[List.length_drop] at hqll;have cv:=qgK qv (by omega) w7
        cases hv:qa9 qv with
        |false=>
         have hR3:=hR2.out;rw[hqn2.out hv] at hR3;simp only at hR3;subst hR3;rw[hv] at cv;replace cv:=Lh cv;clear hv hqs hqn1 hqn2 hql hR2;go_wp2_with fail;refine cv.out.mono ?_;rintro e w8 ⟨rfl,B8⟩;have I8:=Lh (I7.out.on B8);clear B8 I7 cv;go_wp2_with fail;go_ret3;exact⟨_,0,rfl,I8.out.1,fun h=>absurd h (by decide),fun _=>rfl⟩
        |true=>
         have hR3:=hR2.out;rw[hqs.out rfl hv] at hR3;simp only at hR3;rw[List.drop_drop,←hk3] at hR3;rw[hv] at cv;replace cv:=Lh cv;have hk3l:k3≤l.length:=by omega
         have hk3g:i3≤k3:=by omega
         replace hR3:=Lh hR3;clear hv hqs hqn1 hqn2 hql hR2 hqll hk3 hk3h;go_wp2_with fail;refine cv.out.mono ?_;rintro e w8 ⟨rfl,B8⟩;have I8:=Lh (I7.out.on B8);have N8:=Lh (N7.out.on B8);clear B8 I7 N7 cv;obtain⟨m,hm⟩: ∃m,m=out.length:=⟨_,rfl⟩;have hmh:=Lh hm;rw[←hm] at hlo⊢;clear hm;go_wp2_with fail;go_loopg [12] (m+1) (fun gk s12 wx=> ∃t:Nat,t≤m∧m - t<gk∧s12= .int .i64 (t:Int)∧Hid (qbM out n=qbM (out.drop t) n)∧Hid (RLI w out (.slice a7 out.length c7) wx)∧Hid (LB 44 q n [] wx)∧Hid (w8.heap.size≤wx.heap.size))
         case atStart=>exact⟨0,by omega,by omega,rfl,Lh rfl,I8,N8,Lh (Nat.le_refl _)⟩
         case round=>
          clear I8 N8;obtain⟨t,ht,hgk2,rfl,hH,I8,N8,hsz8⟩:=hrel;have tn:=qaa n;have d0:=N8.out.c0
          by_cases hlt3:t<m
          ·have u2:decide ((t:Int)<(m:Int))=true:=dT (by omega);have u3:decide (t<m)=true:=dT hlt3;have hil:t<out.length:=by rw[←hmh.out];exact hlt3
           obtain⟨b,off,rfl,hbl,x1,x2⟩:=(qaI.of_owned I8.out.2).at' t hil;have hH2:=hH.out;rw[qeh out n t hil] at hH2;obtain⟨y,hy⟩: ∃y,(out.getD t lb0).1=y:=⟨_,rfl⟩;rw[hy] at x1 hH2;have ty:=qaa y;clear hy hH
           cases hyn:(y==n)with
           |true=>
            rw[hyn] at hH2;have hR4:=hR3.out;rw[if_pos (by rw[hH2];simp)] at hR4;subst hR4;clear hH2 hR3;go_upto_region 15 with (fail)
            go_quiet (fail);go_wp2_with fail;go_ret3;exact⟨_,0,rfl,bq I8.out.1 _,fun h=>absurd h (by decide),fun _=>rfl⟩
           |false=>
            rw[hyn,Bool.false_or] at hH2;replace hH2:=Lh hH2;go_upto_region 15 with (fail)
            go_quiet (fail);have I9:=Lh (I8.out.on (bq (Below.refl wr.heap.size wr) nq));have N9:=Lh (N8.out.on (bq (Below.refl wr.heap.size wr) nq));go_wp2_with fail;go_roundg (gk - 1)
            case measure=>omega
            case rel=>exact⟨t+1,by omega,by omega,by go_num,hH2,I9,N9,hsz8⟩
          ·obtain rfl:t=m:=by omega
           have u2:decide ((t:Int)<(t:Int))=false:=dF (by omega);have hhf:qbM out n=false:=by rw[hH.out];exact qrd _ _ _ (by rw[←hmh.out];exact Nat.le_refl _)
           have hR4:=hR3.out;rw[hhf] at hR4;clear hH hhf hR3
           cases hsn:(n==qah)with
           |true=>
            have hsn':(n==([95,95,110,97,109,101,95,95]:List UInt8))=true:=hsn;rw[hsn,if_pos (by rfl)] at hR4;subst hR4;clear hsn;go_wp2_with fail;go_ret3;exact⟨_,0,rfl,I8.out.1,fun h=>absurd h (by decide),fun _=>rfl⟩
           |false=>
            have hsn':(n==([95,95,110,97,109,101,95,95]:List UInt8))=false:=hsn;rw[hsn,if_neg (by decide)] at hR4;clear hsn;obtain⟨p1,p2'',p3''⟩:=qaK l k3 hk3l;have cs:=Lh (fun W=>qa8 l (by omega) k3 hk3l W);obtain⟨i5,hi5⟩: ∃i5,skp l k3=i5:=⟨_,rfl⟩;rw[hi5] at p1 p2'' p3'' cs;rw[←p1] at hR4;clear p1 hi5;have fz1:=N8.out.fz 1;have d1:=N8.out.c1;have N9:=Lh (N8.out.set1 qv);have I9:=Lh (I8.out.only hq hnw.out (qag wr q 1 (.string (BS qv))));have hBs:w.heap.size≤(wr.setCell ⟨q,1,none⟩ (.string (BS qv))).heap.size:=I9.out.1.size;go_upto_region 20 with (fail)
            clear d0 d1 fz1 I8 N8;generalize wr.setCell ⟨q,1,none⟩ (.string (BS qv))=w9 at N9 I9 hBs⊢;have d0:=N9.out.c0;have d1:=N9.out.c1;go_wp2_with (at_builtin;go_must (refine qds rfl (.tmp 89) (.tmp 91) 31 rfl 2 #[.string (BS n),.string (BS qv)] rfl (by decide) w.heap.size (.agg #[.string ⟨#[]⟩,.string ⟨#[]⟩]) 32 (by kernel_rfl) qck rfl (.slice a7 out.length c7) out.length (qab out) (congrArg (fun z=>Value.slice a7 z c7) hmh.out) rfl I9.out.2 (by intro u hu;simp at hu;rcases hu with rfl|rfl<;>rfl) (by decide) (by have:=hmh.out;omega) hBs ?_);rintro v2 w10 hown2' hb5 _ _ _;have I10:=Lh (I9.out.app hb5 (x:=(n,qv)) hown2');clear hown2' hb5 I9 hBs d0 d1 N9);refine(cs.out _).mono ?_;rintro e w11 ⟨rfl,rfl⟩;clear cs;have hol:(out++[(n,qv)]).length=t+1:=by rw[hmh.out];simp
            obtain⟨a8,c8,e8⟩:=qae I10.out.2;rw[hol] at e8;subst e8;rcases Nat.lt_or_ge i5 l.length with hlt5|hge5
            ·have e5:((i5:Int)==(l.length:Int))=false:=by rw[beq_eq_false_iff_ne];omega
             have u5:decide ((i5:Int)<(l.length:Int))=true:=dT (by omega);have u6:decide (i5<l.length)=true:=dT hlt5;obtain⟨c5,hc5,hB5⟩:=qbG (BS l) i5 (by rw[hz];exact hlt5);have hcg5:l.getD i5 0=c5:=by rw[←hc5.out,qd5]
             rw[head_drop l i5 hlt5,hcg5] at hR4;clear hc5 hcg5
             by_cases h44:c5=44
             ·subst h44;rw[if_pos (by rfl),qdu] at hR4;obtain⟨p1,q2,q3⟩:=qaK l (i5+1) (by omega);have cs:=Lh (fun W=>qa8 l (by omega) (i5+1) (by omega) W);rw[show((i5+1:Nat):Int)=(i5:Int)+1 by omega] at cs;obtain⟨i6,hi6⟩: ∃i6,skp l (i5+1)=i6:=⟨_,rfl⟩;rw[hi6] at p1 q2 q3 cs;rw[←p1] at hR4;replace hR4:=Lh hR4;clear p1 hi6;go_wp2_with fail;refine(cs.out _).mono ?_;rintro e w11 ⟨rfl,rfl⟩;clear cs;go_wp2_with fail;go_roundg g
              case measure=>omega
              case rel=>exact⟨i6,_,q3,by omega,by rw[hol];omega,rfl,hR4,I10⟩
             ·have v1:=qaJ c5 44 44 rfl h44;rw[if_neg (by simpa using h44)] at hR4
              by_cases h125:c5=125
              ·subst h125;rw[if_pos (by rfl)] at hR4;replace hR4:=Lh hR4;go_wp2_with fail;go_roundg g
               case measure=>omega
               case rel=>exact⟨i5,_,by omega,by omega,by rw[hol];omega,rfl,hR4,I10⟩
              ·have v2:=qaJ c5 125 125 rfl h125;have v2':((c5.toNat:Int) !=125)=true:=by rw[bne,v2];rfl
               rw[if_neg (by simpa using h125)] at hR4;subst hR4;go_wp2_with fail;go_ret3;exact⟨_,0,rfl,I10.out.1,fun h=>absurd h (by decide),fun _=>rfl⟩
            ·obtain rfl:i5=l.length:=by omega
             have e5:((l.length:Int)==(l.length:Int))=true:=by simp
             have u5:decide ((l.length:Int)<(l.length:Int))=false:=dF (by omega);rw[qdl l _ (Nat.le_refl _),if_neg (by decide),if_neg (by decide)] at hR4;subst hR4;go_wp2_with fail;go_ret3;exact⟨_,0,rfl,I10.out.1,fun h=>absurd h (by decide),fun _=>rfl⟩
       ·have hR3:=hR2.out;rw[hqn1.out hqe] at hR3;simp only at hR3;subst hR3;have u4:(qe !=0)=true:=by simpa using hqe
        clear hqs hqn1 hqn2 hql hR2 hk3h hqe;go_wp2_with fail;go_ret3;exact⟨_,0,rfl,I7.out.1,fun h=>absurd h (by decide),fun _=>rfl⟩
      ·rw[head_drop l i2 hlt2,hcg2,if_neg (by simpa using h61)] at hR2;have v1:=qaJ c2 61 61 rfl h61;have v1':((c2.toNat:Int) !=61)=true:=by rw[bne,v1];rfl
       subst hR2;clear hc2 hcg2 h61;go_wp2_with fail;go_ret3;exact⟨_,0,rfl,I6.out.1,fun h=>absurd h (by decide),fun _=>rfl⟩
     ·obtain rfl:i2=l.length:=by omega
      have e2:((l.length:Int)==(l.length:Int))=true:=by simp
      rw[qdl l _ (Nat.le_refl _),if_neg (by decide)] at hR2;subst hR2;go_wp2_with fail;go_ret3;exact⟨_,0,rfl,I6.out.1,fun h=>absurd h (by decide),fun _=>rfl⟩
  ·obtain rfl:j=l.length:=by omega
   have u5:decide ((l.length:Int)<(l.length:Int))=false:=dF (by omega);have e1:((l.length:Int)==(l.length:Int))=true:=by simp
   rw[List.drop_of_length_le (Nat.le_refl _)] at hR';rw[if_neg (by decide),if_neg (by decide)] at hR';subst hR';go_wp2_with fail;go_ret3;exact⟨_,0,rfl,I.out.1,fun h=>absurd h (by decide),fun _=>rfl⟩
def qkC (w0:World) (x:Lb) (out:List Lb) (v:Value) (W:World):Prop:=
 LB 44 w0.heap.size x.1 x.2 W∧Below w0.heap.size w0 W∧W.ownsRow (w0.heap.size+1) 44 2 v out.length (qab out)
theorem qkC.drew {w0:World} {x:Lb} {out:List Lb} {v:Value} {W:World} (h:qkC w0 x out v W) (n:Nat):qkC w0 x out v (W.drewN n):=⟨h.1,bq h.2.1 n,h.2.2⟩
theorem qkC.app {w0:World} {x y:Lb} {out:List Lb} {v v2:Value} {W W':World} (h:qkC w0 x out v W) (hb:Below (w0.heap.size+1) W W') (ho:W'.ownsRow (w0.heap.size+1) 44 2 v2 (out.length+1) (qab out++qbo y)):qkC w0 x (out++[y]) v2 W':=by
 have hlt:=h.1.lt;refine⟨(hb.block _ (Nat.lt_succ_self _)).trans h.1,h.2.1.trans ?_,?_⟩
 ·exact hb.mono (Nat.le_succ _)
 ·rw[List.length_append,show qab (out++[y])=qab out++qbo y by simp[qab]];exact ho
theorem qoU (x:Lb) (ls:List Lb) (i:Nat) (h:i<ls.length) (b:Bool):qcg x (ls.drop i) b=
 if (!b&&!(ltB (ls.getD i lb0).1 x.1))=true then x::(if (ls.getD i lb0).1=x.1 then qcg x (ls.drop (i+1)) true else ls.getD i lb0::qcg x (ls.drop (i+1)) true)
 else if (ls.getD i lb0).1=x.1 then qcg x (ls.drop (i+1)) b else ls.getD i lb0::qcg x (ls.drop (i+1)) b:=by
 rw[qe3 ls i h,qcg]
def qfm (base:Nat) (v:Value):Prop:= ∀a n c,v= .slice (some a) n c→base≤a.block
theorem qdh (base:Nat):qfm base (.slice none 0 0):=fun a n c h=>by cases h
theorem qgH {w:World} {base e k n:Nat} {v:Value} {xs:List Value} (h:w.ownsRow base e k v n xs):qfm base v:=fun a m c hv=>by
 rcases h.2 with ⟨h1,_⟩|⟨g,cap,cur,h1,h2,_⟩
 ·rw[h1] at hv;cases hv
 ·rw[h1] at hv;simp only[Value.slice.injEq,Option.some.injEq] at hv;rw[←hv.1];exact h2
theorem qfm.mono {a b:Nat} {v:Value} (h:qfm b v) (hab:a≤b):qfm a v:=fun x n c e=>Nat.le_trans hab (h x n c e)
theorem qaI.only' {W W':World} {v:Value} {ls:List Lb} {D base:Nat} (h:qaI W v ls) (hf:qfm base v) (hD:D<base) (hb:Only D W W'):qaI W' v ls:=by
 rcases h with h|⟨g,off,c,h1,h2,h3,h4,h5⟩
 ·exact .inl h
 ·have hg:base≤g:=hf _ _ _ h1;refine .inr ⟨g,off,c,h1,Nat.lt_of_lt_of_le h2 hb.size,h3,h4,fun i hi=>?_⟩;obtain⟨x1,x2⟩:=h5 i hi
  have e: ∀j,W'.cell? ⟨g,j,none⟩=W.cell? ⟨g,j,none⟩:=fun j=>by
   have:=hb.block g h2 (by omega);unfold World.cell?;simp only[this]
  exact⟨(e _).trans x1,(e _).trans x2⟩
def qv9 (r:List Lb) (w:World) (e:Ending) (w':World):Prop:= ∃v,e= .returned v∧Below w.heap.size w w'∧qaI w' v r∧qfm w.heap.size v
theorem qtG (v:Value) (ls:List Lb) (x:Lb) (hl:ls.length≤1000000) (hx1:x.1.length≤1000000000) (hb: ∀y∈ls,y.1.length≤1000000000) (w:World) (hr:qaI w v ls):
 Calls Tryz.prog 196 #[v,.agg #[.string (BS x.1),.string (BS x.2)]] w (qv9 (qj4 x ls) w):=by
 obtain⟨a,c,rfl⟩:=hr.shape;have hrh:=Lh hr;have hbh:=Lh hb;clear hr hb;obtain⟨F,hF⟩: ∃F,Hid (F=qj4 x ls):=⟨_,Lh rfl⟩;rw[←hF.out];have hF2:Hid (F=qcg x ls (emp x)):=Lh hF.out;obtain⟨m,hm⟩: ∃m,m=ls.length:=⟨_,rfl⟩;have hmh:=Lh hm;rw[←hm] at hl⊢;clear hm hF;have hem:((BS x.2).toList==([]:List UInt8))=emp x:=by rw[qaa];unfold emp;cases x.2<;>rfl
 have hem2:(BS x.2).toList.isEmpty=emp x:=by rw[qaa];rfl
 obtain⟨e0,he0⟩: ∃b,emp x=b:=⟨_,rfl⟩;rw[he0] at hem hem2 hF2;clear he0;have I0:Hid (qkC w x [] (.slice none 0 0) (w.alloc (.cells #[.string (BS x.1),.string (BS x.2)] 44))):=Lh ⟨World.alloc_heap_new _ _,(Below.refl _ _).alloc (Nat.le_refl _) _,⟨rfl,.inl ⟨rfl,rfl⟩⟩⟩;have d0:=I0.out.1.c0;have d1:=I0.out.1.c1;go_enter Tryz.func196,Tryz.ntmps196;go_wp2_with fail;go_loopg [5,6,7] (m+1) (fun gk s5 s6 s7 wx=> ∃(i:Nat) (out:List Lb) (th:Bool),i≤m∧m - i<gk∧out.length≤i+1∧s6= .bool th∧s7= .int .i64 (i:Int)∧Hid (F=out++qcg x (ls.drop i) th)∧Hid (out.length≤i∨th=true)∧Hid (qkC w x out s5 wx))
 case atStart=>exact⟨0,[],e0,by omega,by omega,by simp,rfl,rfl,hF2,Lh (.inl (by simp)),I0⟩
 case round=>
  clear hF2 I0 d0 d1;obtain⟨i,out,th,hi,hgk,hol,rfl,rfl,hP,hT,I⟩:=hrel;obtain⟨a5,c5,rfl⟩:=qae I.out.2.2;have d0:=I.out.1.c0;have d1:=I.out.1.c1
  by_cases hlt:i<m
  ·have u2:decide ((i:Int)<(m:Int))=true:=dT (by omega);have u3:decide (i<m)=true:=dT hlt;have hil:i<ls.length:=by rw[←hmh.out];exact hlt
   obtain⟨b,off,rfl,hbl,x1,x2⟩:=(hrh.out.on I.out.2.1).at' i hil;have hP2:=hP.out;rw[qoU x ls i hil th] at hP2;have hyb:(ls.getD i lb0).1.length≤1000000000:=hbh.out _ (by rw[gZd,gZq hil];exact List.getElem_mem _);obtain⟨y,hy⟩: ∃y,ls.getD i lb0=y:=⟨_,rfl⟩;rw[hy] at x1 x2 hP2 hyb;have cl:=Lh (fun W=>qnW y.1 x.1 hyb hx1 W);have he:((BS y.1).toList==(BS x.1).toList)=(y.1==x.1):=by rw[qaa,qaa]
   have hbl2:b<w.heap.size∨True:= .inr trivial;have hyy:=Lh hy;clear hP hy;have e_ins:Hid (F=out++(if (!th&&!(ltB y.1 x.1))=true then x::(if y.1=x.1 then qcg x (ls.drop (i+1)) true else y::qcg x (ls.drop (i+1)) true) else if y.1=x.1 then qcg x (ls.drop (i+1)) th else y::qcg x (ls.drop (i+1)) th)):=Lh hP2;clear hP2;have hlt0:=I.out.1.lt;obtain⟨lt,hlt1⟩: ∃b,ltB y.1 x.1=b:=⟨_,rfl⟩;rw[hlt1] at cl e_ins;obtain⟨eq,heq⟩: ∃b,(y.1==x.1)=b:=⟨_,rfl⟩;rw[heq] at he;have heq2:Hid (if eq then y.1=x.1 else y.1≠x.1):=Lh (by cases eq;exact beq_eq_false_iff_ne.1 heq;exact beq_iff_eq.1 heq);clear hlt1 heq hbl2
   cases th with
   |true=>
    cases eq with
    |true=>
     have hE:Hid (F=out++qcg x (ls.drop (i+1)) true):=Lh (by have h1:=e_ins.out;have h2:=heq2.out;simp at h1 h2;simp[h1,h2]);clear e_ins heq2;go_upto_region 6 with (fail)
     clear cl;go_quiet (fail);rename Nat=>n1
     have I1:=Lh (I.out.drew n1);go_upto_region 9 with (fail)
     go_quiet (fail);have I3:=Lh (show qkC w x out _ (wr.drewN (n1+nq))from by have h:=I1.out.drew nq;rwa[World.drewN_drewN] at h);go_wp2_with fail;go_roundg (gk - 1)
     case measure=>omega
     case rel=>exact⟨i+1,out,true,by omega,by omega,by first|omega|(simp;omega)|(have:=hol2.out;omega)|(have:=hol2.out;have h2:=hT.out;simp at h2;simp;omega),rfl,by go_num,hE,Lh (by first|exact .inr rfl|exact .inl (by have:=hT.out;simp at this;first|omega|(simp;omega))),I3⟩
    |false=>
     have hE:Hid (F=(out++[y])++qcg x (ls.drop (i+1)) true):=Lh (by have h1:=e_ins.out;have h2:=heq2.out;simp at h1 h2;simp[h1,h2]);clear e_ins heq2;go_upto_region 6 with (fail)
     clear cl;go_quiet (fail);rename Nat=>n1
     have I1:=Lh (I.out.drew n1);go_upto_region 9 with (fail)
     go_quiet (fail);have I3:=Lh (show qkC w x out _ (wr.drewN (n1+nq))from by have h:=I1.out.drew nq;rwa[World.drewN_drewN] at h);go_wp2_with (at_builtin;go_must (refine qds rfl (.tmp 42) (.tmp 47) 31 rfl 2 #[.string (BS y.1),.string (BS y.2)] rfl (by decide) (w.heap.size+1) (.agg #[.string ⟨#[]⟩,.string ⟨#[]⟩]) 32 (by kernel_rfl) qck rfl _ out.length (qab out) rfl rfl I3.out.2.2 (by intro u hu;simp at hu;rcases hu with rfl|rfl<;>rfl) (by decide) (by first|omega|(have:=hol2.out;omega)) I3.out.1.lt ?_);rintro v2 w10 hown2' hb5 _ _ _;have I4:=Lh (I3.out.app hb5 (y:=y) hown2');clear hown2' hb5);go_roundg (gk - 1)
     case measure=>omega
     case rel=>exact⟨i+1,(out++[y]),true,by omega,by omega,by first|omega|(simp;omega)|(have:=hol2.out;omega)|(have:=hol2.out;have h2:=hT.out;simp at h2;simp;omega),rfl,by go_num,hE,Lh (by first|exact .inr rfl|exact .inl (by have:=hT.out;simp at this;first|omega|(simp;omega))),I4⟩
   |false=>
    cases lt with
    |true=>
     cases eq with
     |true=>
      have hE:Hid (F=out++qcg x (ls.drop (i+1)) false):=Lh (by have h1:=e_ins.out;have h2:=heq2.out;simp at h1 h2;simp[h1,h2]);clear e_ins heq2;go_upto_region 6 with (fail)
      go_quiet ((go_at_call 248;exact Calls.quiet_of (cl.out _)));rename Nat=>n1
      have I1:=Lh (I.out.drew n1);go_upto_region 9 with (fail)
      go_quiet (fail);have I3:=Lh (show qkC w x out _ (wr.drewN (n1+nq))from by have h:=I1.out.drew nq;rwa[World.drewN_drewN] at h);go_wp2_with fail;go_roundg (gk - 1)
      case measure=>omega
      case rel=>exact⟨i+1,out,false,by omega,by omega,by first|omega|(simp;omega)|(have:=hol2.out;omega)|(have:=hol2.out;have h2:=hT.out;simp at h2;simp;omega),rfl,by go_num,hE,Lh (by first|exact .inr rfl|exact .inl (by have:=hT.out;simp at this;first|omega|(simp;omega))),I3⟩
     |false=>
      have hE:Hid (F=(out++[y])++qcg x (ls.drop (i+1)) false):=Lh (by have h1:=e_ins.out;have h2:=heq2.out;simp at h1 h2;simp[h1,h2]);clear e_ins heq2;go_upto_region 6 with (fail)
      go_quiet ((go_at_call 248;exact Calls.quiet_of (cl.out _)));rename Nat=>n1
      have I1:=Lh (I.out.drew n1);go_upto_region 9 with (fail)
      go_quiet (fail);have I3:=Lh (show qkC w x out _ (wr.drewN (n1+nq))from by have h:=I1.out.drew nq;rwa[World.drewN_drewN] at h);go_wp2_with (at_builtin;go_must (refine qds rfl (.tmp 42) (.tmp 47) 31 rfl 2 #[.string (BS y.1),.string (BS y.2)] rfl (by decide) (w.heap.size+1) (.agg #[.string ⟨#[]⟩,.string ⟨#[]⟩]) 32 (by kernel_rfl) qck rfl _ out.length (qab out) rfl rfl I3.out.2.2 (by intro u hu;simp at hu;rcases hu with rfl|rfl<;>rfl) (by decide) (by first|omega|(have:=hol2.out;omega)) I3.out.1.lt ?_);rintro v2 w10 hown2' hb5 _ _ _;have I4:=Lh (I3.out.app hb5 (y:=y) hown2');clear hown2' hb5);go_roundg (gk - 1)
      case measure=>omega
      case rel=>exact⟨i+1,(out++[y]),false,by omega,by omega,by first|omega|(simp;omega)|(have:=hol2.out;omega)|(have:=hol2.out;have h2:=hT.out;simp at h2;simp;omega),rfl,by go_num,hE,Lh (by first|exact .inr rfl|exact .inl (by have:=hT.out;simp at this;first|omega|(simp;omega))),I4⟩
    |false=>
     cases eq with
     |true=>
      have hE:Hid (F=(out++[x])++qcg x (ls.drop (i+1)) true):=Lh (by have h1:=e_ins.out;have h2:=heq2.out;simp at h1 h2;simp[h1,h2]);clear e_ins heq2;go_upto_region 6 with (fail)
      go_quiet ((go_at_call 248;exact Calls.quiet_of (cl.out _)));rename Nat=>n1
      have I1:=Lh (I.out.drew n1);go_upto_region 9 with (at_builtin;go_must (refine qds rfl (.tmp 30) (.tmp 32) 31 rfl 2 #[.string (BS x.1),.string (BS x.2)] rfl (by decide) (w.heap.size+1) (.agg #[.string ⟨#[]⟩,.string ⟨#[]⟩]) 32 (by kernel_rfl) qck rfl _ out.length (qab out) rfl rfl I1.out.2.2 (by intro u hu;simp at hu;rcases hu with rfl|rfl<;>rfl) (by decide) (by first|omega|(have:=hol2.out;omega)) hlt0 ?_);rintro v2 w10 hown2' hb5 _ _ _;have I2:=Lh (I1.out.app hb5 (y:=x) hown2');clear hown2' hb5)
      obtain⟨o2,ho2⟩: ∃o2,out++[x]=o2:=⟨_,rfl⟩;rw[ho2] at I2 hE;have hol2:Hid (o2.length=out.length+1):=Lh (by rw[←ho2];simp);clear ho2;obtain⟨a6,c6,e6⟩:=qae I2.out.2.2;subst e6;obtain⟨b',off',hab',hbl',x1',x2'⟩:=(hrh.out.on I2.out.2.1).at' i hil;obtain⟨rfl,rfl⟩:b=b'∧off=off':=by simp only[Option.some.injEq,Addr.mk.injEq] at hab';exact⟨hab'.1,hab'.2.1⟩
      rw[hyy.out] at x1' x2';have d0':=I2.out.1.c0;have d1':=I2.out.1.c1;go_quiet (fail);have I3:=Lh (I2.out.drew nq);go_wp2_with fail;go_roundg (gk - 1)
      case measure=>omega
      case rel=>exact⟨i+1,o2,true,by omega,by omega,by first|omega|(simp;omega)|(have:=hol2.out;omega)|(have:=hol2.out;have h2:=hT.out;simp at h2;simp;omega),rfl,by go_num,hE,Lh (by first|exact .inr rfl|exact .inl (by have:=hT.out;simp at this;first|omega|(simp;omega))),I3⟩
     |false=>
      have hE:Hid (F=((out++[x])++[y])++qcg x (ls.drop (i+1)) true):=Lh (by have h1:=e_ins.out;have h2:=heq2.out;simp at h1 h2;simp[h1,h2]);clear e_ins heq2;go_upto_region 6 with (fail)
      go_quiet ((go_at_call 248;exact Calls.quiet_of (cl.out _)));rename Nat=>n1
      have I1:=Lh (I.out.drew n1);go_upto_region 9 with (at_builtin;go_must (refine qds rfl (.tmp 30) (.tmp 32) 31 rfl 2 #[.string (BS x.1),.string (BS x.2)] rfl (by decide) (w.heap.size+1) (.agg #[.string ⟨#[]⟩,.string ⟨#[]⟩]) 32 (by kernel_rfl) qck rfl _ out.length (qab out) rfl rfl I1.out.2.2 (by intro u hu;simp at hu;rcases hu with rfl|rfl<;>rfl) (by decide) (by first|omega|(have:=hol2.out;omega)) hlt0 ?_);rintro v2 w10 hown2' hb5 _ _ _;have I2:=Lh (I1.out.app hb5 (y:=x) hown2');clear hown2' hb5)
      obtain⟨o2,ho2⟩: ∃o2,out++[x]=o2:=⟨_,rfl⟩;rw[ho2] at I2 hE;have hol2:Hid (o2.length=out.length+1):=Lh (by rw[←ho2];simp);clear ho2;obtain⟨a6,c6,e6⟩:=qae I2.out.2.2;subst e6;obtain⟨b',off',hab',hbl',x1',x2'⟩:=(hrh.out.on I2.out.2.1).at' i hil;obtain⟨rfl,rfl⟩:b=b'∧off=off':=by simp only[Option.some.injEq,Addr.mk.injEq] at hab';exact⟨hab'.1,hab'.2.1⟩
      rw[hyy.out] at x1' x2';have d0':=I2.out.1.c0;have d1':=I2.out.1.c1;go_quiet (fail);have I3:=Lh (I2.out.drew nq);go_wp2_with (at_builtin;go_must (refine qds rfl (.tmp 42) (.tmp 47) 31 rfl 2 #[.string (BS y.1),.string (BS y.2)] rfl (by decide) (w.heap.size+1) (.agg #[.string ⟨#[]⟩,.string ⟨#[]⟩]) 32 (by kernel_rfl) qck rfl _ o2.length (qab o2) rfl rfl I3.out.2.2 (by intro u hu;simp at hu;rcases hu with rfl|rfl<;>rfl) (by decide) (by first|omega|(have:=hol2.out;omega)) I3.out.1.lt ?_);rintro v2 w10 hown2' hb5 _ _ _;have I4:=Lh (I3.out.app hb5 (y:=y) hown2');clear hown2' hb5);go_roundg (gk - 1)
      case measure=>omega
      case rel=>exact⟨i+1,(o2++[y]),true,by omega,by omega,by first|omega|(simp;omega)|(have:=hol2.out;omega)|(have:=hol2.out;have h2:=hT.out;simp at h2;simp;omega),rfl,by go_num,hE,Lh (by first|exact .inr rfl|exact .inl (by have:=hT.out;simp at this;first|omega|(simp;omega))),I4⟩
  ·obtain rfl:i=m:=by omega
   have u2:decide ((i:Int)<(i:Int))=false:=dF (by omega);have hD:ls.drop i=[]:=List.drop_of_length_le (by rw[←hmh.out];exact Nat.le_refl _);have hP2:=hP.out;rw[hD] at hP2
   cases th with
   |true=>
    have hR:Hid (F=out):=Lh (by rw[hP2];simp[qcg]);clear hP hP2 hD;go_wp2_with fail;go_ret;exact⟨_,rfl,I.out.2.1,by rw[hR.out];exact qaI.of_owned I.out.2.2,(qgH I.out.2.2).mono (Nat.le_succ _)⟩
   |false=>
    have hR:Hid (F=out++[x]):=Lh (by rw[hP2];simp[qcg]);clear hP hP2 hD;have hBs:=I.out.1.lt;go_wp2_with (at_builtin;go_must (refine qds rfl (.tmp 51) (.tmp 53) 31 rfl 2 #[.string (BS x.1),.string (BS x.2)] rfl (by decide) (w.heap.size+1) (.agg #[.string ⟨#[]⟩,.string ⟨#[]⟩]) 32 (by kernel_rfl) qck rfl _ out.length (qab out) rfl rfl I.out.2.2 (by intro u hu;simp at hu;rcases hu with rfl|rfl<;>rfl) (by decide) (by omega) hBs ?_);rintro v2 w10 hown2' hb5 _ _ _;have I10:=Lh (I.out.app hb5 (y:=x) hown2');clear hown2' hb5 hBs);go_ret;exact⟨_,rfl,I10.out.2.1,by rw[hR.out];exact qaI.of_owned I10.out.2.2,(qgH I10.out.2.2).mono (Nat.le_succ _)⟩
theorem qs4 (l:List UInt8):L.refN l=qfB l:=by
 cases h:L.refN l with
 |some v=>
  obtain⟨rfl,h0,h1⟩:=L.refN_back l v h;unfold qfB qd2;rw[L.atoi_itoa v h0 h1];simp
 |none=>
  unfold qfB
  cases ha:qd2 l with
  |none=>rfl
  |some n=>
   simp only
   by_cases hn:Lib.itoa n=l
   ·have hr: -9223372036854775808≤n∧n≤9223372036854775807:=by
     unfold qd2 at ha
     split at ha
     ·rename_i v hv;cases ha;exact qfX l n hv
     ·cases ha
    rw[←hn,L.refN_itoa n hr.1 hr.2] at h;cases h
   ·rw[if_neg hn]
theorem qfA (l:List UInt8) (hl:l.length≤65536) (w:World):Calls Tryz.prog 140 #[.string (BS l)] w fun e w'=>
 (∃n,e= .returned (.tuple #[.int .i64 n,.bool (qfB l).isSome])∧ ∀v,qfB l=some v→n=v)∧w=w':=by
 have hd:(BS l).data.toList=l:=by simp[BS]
 have hN:=qs4 l
 cases h:qfB l with
 |none=>
  refine(L.rnum_to (BS l) (by rw[qad];exact hl) 0 false (by rw[hd,hN,h]) w).mono ?_;rintro e w' ⟨rfl,rfl⟩;exact⟨⟨0,rfl,fun v hv=>by cases hv⟩,rfl⟩
 |some n=>
  refine(L.rnum_to (BS l) (by rw[qad];exact hl) n true (by rw[hd,hN,h]) w).mono ?_;rintro e w' ⟨rfl,rfl⟩;exact⟨⟨n,rfl,fun v hv=>Option.some.inj hv⟩,rfl⟩
theorem qpg (l:List UInt8) (h:l.length≤1210):dn (qcf l)<T10 1210:=
 Nat.lt_of_lt_of_le (qre _ (qiW false _)) (qbH (Nat.le_trans (qg8 l).1 h))
theorem qhW (l:List UInt8) (h:1200<l.length) (hl:l.length≤1000000000) (w:World):Calls Tryz.prog 139 #[.string (BS l)] w fun e w'=>e= .returned (.tuple #[.int .u64 0,.int .i64 3])∧w=w':=by
 have hz:=qad l;have u1:decide ((1200:Int)<(l.length:Int))=true:=dT (by omega);have u2:decide (1200<l.length)=true:=dT h;go_enter Tryz.func139,Tryz.ntmps139;go_wp2_with fail;go_ret2;exact⟨rfl,rfl⟩
theorem qgW (l:List UInt8) (hl:l.length≤1000000000) (w:World):Calls Tryz.prog 139 #[.string (BS l)] w (qun l w):=by
 by_cases h:1200<l.length
 ·refine(qhW l h hl w).mono ?_;rintro e w' ⟨rfl,rfl⟩;exact⟨0,3,rfl,.inr ⟨by decide,by unfold qd1;rw[if_pos h]⟩,Below.refl _ _⟩
 ·have hd:(BS l).data.toList=l:=by simp[BS]
  refine(qjF (BS l) (by rw[qad];omega) (fun _=>by rw[hd];exact qpg l (by omega)) w).mono ?_;rintro x w' ⟨hB,v,e,hv,rfl⟩;rw[hd] at hv;rcases hv with ⟨h1,rfl,rfl⟩|⟨h1,h2,rfl,rfl⟩|⟨h1,h2,h3,rfl,rfl⟩|⟨h1,h2,h3,rfl,r,hr,rfl⟩
  ·exact⟨0,3,rfl,.inr ⟨by decide,by unfold qd1;rw[if_pos h1]⟩,hB⟩
  ·exact⟨qtn l,0,rfl,.inl ⟨rfl,by unfold qd1;rw[if_neg (by omega),if_pos h2]⟩,hB⟩
  ·exact⟨0,210,rfl,.inr ⟨by decide,by unfold qd1;rw[if_neg (by omega),if_neg (by rw[h2];decide),if_neg (by rw[h3];decide)]⟩,hB⟩
  ·exact⟨_,0,rfl,.inl ⟨rfl,by unfold qd1;rw[if_neg (by omega),if_neg (by rw[h2];decide),if_pos h3,qfT hr]⟩,hB⟩
theorem qnT (all ls:List Lb) (i:Nat) (out:List Lb) (h:i<ls.length):qk7 all (ls.drop i) i out=if qcn (ls.getD i lb0).1 all 0=(i:Int) then qk7 all (ls.drop (i+1)) (i+1) (qj4 (ls.getD i lb0) out) else (43,[]):=by
 rw[qe3 ls i h,qk7]
def qqF (ls:List Lb) (w:World) (e:Ending) (w':World):Prop:=
 ∃v',e= .returned (.tuple #[v',.int .i64 (ofF ls).1])∧qaI w' v' (ofF ls).2∧qfm w.heap.size v'∧Below w.heap.size w w'
theorem qde (w:World):qaI w (.slice none 0 0) []:= .inl ⟨none,0,fun _=>rfl,rfl,rfl⟩
theorem qi3 (v:Value) (ls:List Lb) (hl:ls.length≤100000) (hb: ∀x∈ls,x.1.length≤1000000000∧x.2.length≤1000000000) (w:World) (hr:qaI w v ls):
 Calls Tryz.prog 141 #[v] w (qqF ls w):=by
 obtain⟨a,c,rfl⟩:=hr.shape;have hrh:=Lh hr;have hbh:=Lh hb;clear hr hb;unfold qqF;obtain⟨R,hR⟩: ∃R,Hid (R=ofF ls):=⟨_,Lh rfl⟩;rw[←hR.out];have hR2:Hid (R=qtA ls):=Lh (by rw[hR.out,quU]);obtain⟨m,hm⟩: ∃m,m=ls.length:=⟨_,rfl⟩;have hmh:=Lh hm;rw[←hm] at hl⊢;clear hm hR;go_enter Tryz.func141,Tryz.ntmps141;go_wp2_with fail;go_loopg [4] (m+1) (fun gk s4 wx=> ∃i:Nat,i≤m∧m - i<gk∧s4= .int .i64 (i:Int)∧Hid (qaB ls=qaB (ls.drop i))∧Hid (Below w.heap.size w wx))
 case atStart=>exact⟨0,by omega,by omega,rfl,Lh rfl,Lh (Below.refl _ _)⟩
 case round=>
  obtain⟨i,hi,hgk,rfl,hI,B⟩:=hrel
  by_cases hlt:i<m
  ·have u2:decide ((i:Int)<(m:Int))=true:=dT (by omega);have u3:decide (i<m)=true:=dT hlt;have hil:i<ls.length:=by rw[←hmh.out];exact hlt
   obtain⟨b,off,rfl,hbl,x1,x2⟩:=(hrh.out.on B.out).at' i hil;have hI2:=hI.out;rw[qfr ls i hil] at hI2;have hxb:(ls.getD i lb0).1.length≤1000000000∧(ls.getD i lb0).2.length≤1000000000:=hbh.out _ (by rw[gZd,gZq hil];exact List.getElem_mem _);obtain⟨x,hx⟩: ∃x,Hid (x=ls.getD i lb0):=⟨_,Lh rfl⟩;rw[←hx.out] at x1 x2 hI2 hxb;have co:=Lh (fun W=>qpE x hxb.1 hxb.2 W)
   by_cases h0:qcI x=0
   ·rw[if_pos h0] at hI2;have hI3:=Lh hI2;rw[h0] at co;clear hI hI2 h0 hxb;go_wp2_with fail;refine(co.out _).mono ?_;rintro e w1 ⟨rfl,hb1⟩;have B1:=Lh (B.out.trans (hb1.mono B.out.size));clear hb1 co x1 x2;go_wp2_with fail;go_roundg (gk - 1)
    case measure=>omega
    case rel=>exact⟨i+1,by omega,by omega,by go_num,hI3,B1⟩
   ·rw[if_neg h0] at hI2;have hF:Hid (R=(qcI x,[])):=Lh (by rw[hR2.out];unfold qtA;rw[if_neg (by rw[hI2];exact h0),hI2]);have u4:(qcI x !=0)=true:=by simpa using h0
    obtain⟨ov,hov⟩: ∃ov,ov=qcI x:=⟨_,rfl⟩;rw[←hov] at u4 hF co;clear hov hI hI2 h0 hxb;go_wp2_with fail;refine(co.out _).mono ?_;rintro e w1 ⟨rfl,hb1⟩;have B1:=Lh (B.out.trans (hb1.mono B.out.size));clear hb1 co x1 x2;go_wp2_with fail;go_ret2;exact⟨_,by rw[hF.out];rfl,by rw[hF.out];exact qde _,qdh _,B1.out⟩
  ·obtain rfl:i=m:=by omega
   have u2:decide ((i:Int)<(i:Int))=false:=dF (by omega);have hf0:qaB ls=0:=by rw[hI.out,List.drop_of_length_le (by rw[←hmh.out];exact Nat.le_refl _)];rfl
   have hO:Hid (R=qk7 ls ls 0 []):=Lh (by rw[hR2.out];unfold qtA;rw[if_pos hf0]);clear hf0 hI hR2;go_wp2_with fail;go_loopg [6,7] (i+1) (fun gk s6 s7 wx=> ∃(j:Nat) (out:List Lb),j≤i∧i - j<gk∧out.length≤j∧s7= .int .i64 (j:Int)∧Hid (R=qk7 ls (ls.drop j) j out)∧Hid (∀y∈out,y.1.length≤1000000000)∧Hid (qaI wx s6 out)∧Hid (qfm w.heap.size s6)∧Hid (Below w.heap.size w wx))
   case atStart=>exact⟨0,[],by omega,by omega,by simp,rfl,hO,Lh (fun y hy=>by cases hy),Lh (qde _),Lh (qdh _),B⟩
   case round=>
    clear hO B;obtain⟨j,out,hj,hgk2,hol,rfl,hO,hob,hrow,hfr,B⟩:=hrel;obtain⟨a6,c6,rfl⟩:=hrow.out.shape
    by_cases hlt:j<i
    ·have u2:decide ((j:Int)<(i:Int))=true:=dT (by omega);have u3:decide (j<i)=true:=dT hlt;have hil:j<ls.length:=by rw[←hmh.out];exact hlt
     obtain⟨b,off,rfl,hbl,x1,x2⟩:=(hrh.out.on B.out).at' j hil;have hO2:=hO.out;rw[qnT ls ls j out hil] at hO2;have hxb:(ls.getD j lb0).1.length≤1000000000∧(ls.getD j lb0).2.length≤1000000000:=hbh.out _ (by rw[gZd,gZq hil];exact List.getElem_mem _);obtain⟨x,hx⟩: ∃x,Hid (x=ls.getD j lb0):=⟨_,Lh rfl⟩;rw[←hx.out] at x1 x2 hO2 hxb;have cf:=qrz _ ls x.1 (by rw[←hmh.out];omega) wr (hrh.out.on B.out);rw[←hmh.out] at cf;have cp:=Lh (qtG _ out x (by omega) hxb.1 hob.out wr hrow.out);obtain⟨fv,hfv⟩: ∃fv,qcn x.1 ls 0=fv:=⟨_,rfl⟩;rw[hfv] at cf hO2;replace cf:=Lh cf
     by_cases h0:fv=(j:Int)
     ·rw[if_pos h0] at hO2;have hO3:=Lh hO2
      have hob2:Hid (∀y∈qj4 x out,y.1.length≤1000000000):=Lh (fun y hy=>by
       rcases qnq x out y hy with rfl|h
       ·exact hxb.1
       ·exact hob.out y h)
      have hpl:=qoy x out;have u4:(fv !=(j:Int))=false:=by simpa using h0
      clear hO hO2 hfv hxb;go_wp2_with fail;refine cf.out.mono ?_;rintro e w1 ⟨rfl,rfl⟩;clear cf h0;go_wp2_with fail;refine cp.out.mono ?_;rintro e w2 ⟨v2,rfl,B2,hrow2,hf2⟩;have hf2h:Hid (qfm w.heap.size v2):=Lh (hf2.mono B.out.size);have hrow2h:=Lh hrow2;have B3:=Lh (B.out.trans (B2.mono B.out.size));clear cp B2 hrow2 hf2 x1 x2;go_wp2_with fail;go_roundg (gk - 1)
      case measure=>omega
      case rel=>exact⟨j+1,_,by omega,by omega,by omega,by go_num,hO3,hob2,hrow2h,hf2h,B3⟩
     ·rw[if_neg h0] at hO2;have hO3:=Lh hO2;have u4:(fv !=(j:Int))=true:=by simpa using h0
      clear hO hO2 hfv hxb cp h0;go_wp2_with fail;refine cf.out.mono ?_;rintro e w1 ⟨rfl,rfl⟩;clear cf;go_wp2_with fail;go_ret2;exact⟨_,by rw[hO3.out];rfl,by rw[hO3.out];exact qde _,qdh _,B.out⟩
    ·obtain rfl:j=i:=by omega
     have u2:decide ((j:Int)<(j:Int))=false:=dF (by omega);have hO2:Hid (R=if 64<out.length then (5,[]) else (0,out)):=Lh (by rw[hO.out,List.drop_of_length_le (by rw[←hmh.out];exact Nat.le_refl _),qk7]);have cb:=Lh (qmt out.length a6 c6 (by omega) wr);clear hO
     by_cases h64:64<out.length
     ·rw[if_pos h64] at cb hO2;clear h64;go_wp2_with fail;refine cb.out.mono ?_;rintro e w1 ⟨rfl,rfl⟩;go_wp2_with fail;go_ret2;exact⟨_,by rw[hO2.out];rfl,by rw[hO2.out];exact qde _,qdh _,B.out⟩
     ·rw[if_neg h64] at cb hO2;clear h64;go_wp2_with fail;refine cb.out.mono ?_;rintro e w1 ⟨rfl,rfl⟩;go_wp2_with fail;go_ret2;exact⟨_,by rw[hO2.out];rfl,by rw[hO2.out];exact hrow.out,hfr.out,B.out⟩
end Go.Proofs.YtdeimnnpcfncpaaGreatDoor.X
