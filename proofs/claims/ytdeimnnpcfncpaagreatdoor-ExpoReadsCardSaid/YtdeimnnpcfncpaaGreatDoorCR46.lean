/- Parts of the proof: NA NC. -/
import Derived.Test.YtdeimnnpcfncpaaGreatDoorCR45
set_option linter.unusedVariables false
set_option linter.unusedSimpArgs false
set_option maxRecDepth 100000
set_option maxHeartbeats 64000000
namespace Go.Proofs.YtdeimnnpcfncpaaGreatDoor
open Go Go.RowKit
def qdw (x y:Nat):Int:=if x<y then -1 else if y<x then 1 else 0
theorem qsB (x:Nat):x<65536^(bg x).length:=by
 have h:=qru (bg x) (qhD x);rw[qhy] at h;exact h
theorem qhx {x y:Nat} (h:(bg x).length<(bg y).length):qdw x y= -1∧qdw y x=1:=by
 have hxy:x<y:=by
  apply Nat.lt_of_not_le;intro hle;have:=qd0 (bg x).length y (Nat.lt_of_le_of_lt hle (qsB x));omega
 unfold qdw;exact⟨if_pos hxy,by rw[if_neg (by omega),if_pos hxy]⟩
theorem qi0 (l:List Nat) (i:Nat) (h:i<l.length):bv l=bv (l.take i)+65536^i*(l.getD i 0+65536*bv (l.drop (i+1))):=by
 have e:bv l=bv (l.take i++l.drop i):=by rw[List.take_append_drop]
 rw[e,qfq,List.length_take,Nat.min_eq_left (by omega),drop_at l i h];rfl
theorem quE {x y T a b:Nat} {P p q:Nat} (hp:p<P) (h:a<b) (e1:x=p+P*(a+65536*T)) (e2:y=q+P*(b+65536*T)):x<y:=by
 have h1:P*(a+65536*T)+P≤P*(b+65536*T):=by
  rw[←Nat.mul_succ];exact Nat.mul_le_mul_left _ (by omega)
 omega
theorem qmH (x y i:Nat) (hx:i<(bg x).length) (hy:i<(bg y).length) (hd:(bg x).drop (i+1)=(bg y).drop (i+1)) (h:(bg x).getD i 0<(bg y).getD i 0):qdw x y= -1∧qdw y x=1:=by
 have e1:=qi0 _ i hx;have e2:=qi0 _ i hy;rw[qhy] at e1 e2;rw[hd] at e1
 have hp:bv ((bg x).take i)<65536^i:=by
  have:=qru ((bg x).take i) (fun z hz=>qhD x z (List.mem_of_mem_take hz));rw[List.length_take,Nat.min_eq_left (by omega)] at this;exact this
 have hxy:=quE hp h e1 e2;unfold qdw;exact⟨if_pos hxy,by rw[if_neg (by omega),if_pos hxy]⟩
theorem qlT (X Y:List Nat) (i:Nat) (h1:i<X.length) (h2:i<Y.length) (e:X.drop (i+1)=Y.drop (i+1)) (h:X.getD i 0=Y.getD i 0):X.drop i=Y.drop i:=by
 rw[drop_at X i h1,drop_at Y i h2,e,h]
theorem qdT (a1 a2:Option Addr) (c1 c2 x y:Nat) (hx:(bg x).length≤10000) (hy:(bg y).length≤10000) (w:World) (h1:qbI w a1 c1 (bg x)) (h2:qbI w a2 c2 (bg y)):
 Calls Tryz.prog 288 #[.slice a1 (bg x).length c1,.slice a2 (bg y).length c2] w fun e w'=>e= .returned (.int .i64 (qdw x y))∧Below w.heap.size w w':=by
 obtain⟨b1,o1,hat1⟩:=h1.at';obtain⟨b2,o2,hat2⟩:=h2.at';have hcap1:=h1.cap;have hcap2:=h2.cap;replace hat1:=Lh hat1;replace hat2:=Lh hat2;have hshort:=Lh (@qhx x y);have hshort':=Lh (@qhx y x);have hdig:=Lh (qmH x y);have hdig':=Lh (qmH y x);have hdr:=Lh (qlT (bg x) (bg y))
 have heq:Hid (bg x=bg y→qdw x y=0):=Lh (fun e=>by
  have:x=y:=by rw[←qhy x,e,qhy]
  unfold qdw;rw[if_neg (by omega),if_neg (by omega)])
 have hdx:=Lh (qhD x);have hdy:=Lh (qhD y);obtain⟨X,hX⟩: ∃X,Hid (X=bg x):=⟨_,Lh rfl⟩;obtain⟨Y,hY⟩: ∃Y,Hid (Y=bg y):=⟨_,Lh rfl⟩;obtain⟨c,hc⟩: ∃c,Hid (c=qdw x y):=⟨_,Lh rfl⟩;obtain⟨c',hc'⟩: ∃c,Hid (c=qdw y x):=⟨_,Lh rfl⟩;rw[←hX.out] at hat1 hcap1 hx hshort hshort' hdig hdig' hdr heq hdx⊢;rw[←hY.out] at hat2 hcap2 hy hshort hshort' hdig hdig' hdr heq hdy⊢;rw[←hc.out] at hshort hshort' hdig hdig' heq⊢;rw[←hc'.out] at hshort hshort' hdig hdig';obtain⟨n,hn⟩: ∃n,n=X.length:=⟨_,rfl⟩;obtain⟨m,hm⟩: ∃m,m=Y.length:=⟨_,rfl⟩;have hnh:=Lh hn;have hmh:=Lh hm;rw[←hn] at hcap1 hx⊢;rw[←hm] at hcap2 hy⊢;clear h1 h2 hn hm hX hY hc hc';go_enter Tryz.func288,Tryz.ntmps288;rcases Nat.lt_trichotomy n m with hlt|rfl|hgt
 ·have e:=(hshort.out (by rw[←hnh.out,←hmh.out];exact hlt)).1;have t1:((n:Int)==(m:Int))=false:=beq_eq_false_iff_ne.2 (by omega);have t2:decide ((n:Int)<(m:Int))=true:=dT (by omega);have eh:=Lh e;clear e hat1 hat2;go_wp2_with fail;go_ret;exact⟨by rw[eh.out];rfl,Below.refl _ _⟩
 ·go_wp2_with fail;go_loopg [5] (n+1) (fun gk s5 wx=> ∃i:Nat,i<gk∧i≤n∧s5= .int .i64 ((i:Int) - 1)∧Hid (X.drop i=Y.drop i)∧Hid (Below w.heap.size w wx))
  case atStart=>exact⟨n,by omega,by omega,rfl,Lh (by rw[List.drop_of_length_le (by rw[←hnh.out];exact Nat.le_refl _),List.drop_of_length_le (by rw[←hmh.out];exact Nat.le_refl _)]),Lh (Below.refl _ _)⟩
  case round=>
   obtain⟨i,hgi,hi,rfl,hD,B⟩:=hrel
   by_cases h0:0<i
   ·obtain⟨q,rfl⟩: ∃q,i=q+1:=⟨i - 1,by omega⟩;have e1:(((q+1:Nat):Int) - 1)=(q:Int):=by omega
    rw[e1];have t2:decide ((0:Int)≤(q:Int))=true:=dT (by omega);obtain⟨rfl,hg1,hcl1⟩:=hat1.out q (by rw[←hnh.out];omega);obtain⟨rfl,hg2,hcl2⟩:=hat2.out q (by rw[←hmh.out];omega);have k1:wr.cell? ⟨b1,o1+q,none⟩=some (.int .i64 ((X.getD q 0:Nat):Int)):=by rw[B.out.cell (p:=⟨b1,o1+q,none⟩) hg1];exact hcl1
    have k2:wr.cell? ⟨b2,o2+q,none⟩=some (.int .i64 ((Y.getD q 0:Nat):Int)):=by rw[B.out.cell (p:=⟨b2,o2+q,none⟩) hg2];exact hcl2
    have hdq:=Lh (hdig.out q (by rw[←hnh.out];omega) (by rw[←hmh.out];omega) hD.out);have hdq':=Lh (hdig'.out q (by rw[←hmh.out];omega) (by rw[←hnh.out];omega) hD.out.symm);have hdrq:=Lh (hdr.out q (by rw[←hnh.out];omega) (by rw[←hmh.out];omega) hD.out);have hxb:=hdx.out (X.getD q 0) (by rw[gZd,gZq (by rw[←hnh.out];omega)];exact List.getElem_mem _);have hyb:=hdy.out (Y.getD q 0) (by rw[gZd,gZq (by rw[←hmh.out];omega)];exact List.getElem_mem _);obtain⟨u,hu⟩: ∃u,Hid (u=X.getD q 0):=⟨_,Lh rfl⟩;obtain⟨v,hv⟩: ∃v,Hid (v=Y.getD q 0):=⟨_,Lh rfl⟩;rw[←hu.out] at k1 hdq hdq' hdrq hxb;rw[←hv.out] at k2 hdq hdq' hdrq hyb;clear hcl1 hcl2 hg1 hg2 e1 hat1 hat2;rcases Nat.lt_trichotomy u v with l|rfl|l
    ·have e:=Lh (hdq.out l).1;have t3:((u:Int)==(v:Int))=false:=beq_eq_false_iff_ne.2 (by omega);have t4:decide ((u:Int)<(v:Int))=true:=dT (by omega);go_upto_region 8 with (fail)
     go_quiet (fail);go_upto_region 9 with (fail)
     go_quiet (fail);go_wp2_with fail;go_ret;exact⟨by rw[e.out];rfl,qdI (qdI B.out _) _⟩
    ·have hD2:=Lh (hdrq.out rfl);clear hD hdrq;go_upto_region 8 with (fail)
     go_quiet (fail);go_wp2_with fail;go_roundg (gk - 1)
     case measure=>omega
     case rel=>exact⟨q,by omega,by omega,rfl,hD2,Lh (qdI B.out _)⟩
    ·have e:=Lh (hdq'.out l).2;have t3:((u:Int)==(v:Int))=false:=beq_eq_false_iff_ne.2 (by omega);have t4:decide ((u:Int)<(v:Int))=false:=dF (by omega);go_upto_region 8 with (fail)
     go_quiet (fail);go_upto_region 9 with (fail)
     go_quiet (fail);go_wp2_with fail;go_ret;exact⟨by rw[e.out];rfl,qdI (qdI B.out _) _⟩
   ·obtain rfl:i=0:=by omega
    have t2:decide ((0:Int)≤((0:Nat):Int) - 1)=false:=rfl;have e:=Lh (heq.out hD.out);clear hD;go_wp2_with fail;go_ret;exact⟨by rw[e.out];rfl,B.out⟩
 ·have e:=(hshort'.out (by rw[←hnh.out,←hmh.out];exact hgt)).2;have t1:((n:Int)==(m:Int))=false:=beq_eq_false_iff_ne.2 (by omega);have t2:decide ((n:Int)<(m:Int))=false:=dF (by omega);have eh:=Lh e;clear e hat1 hat2;go_wp2_with fail;go_ret;exact⟨by rw[eh.out];rfl,Below.refl _ _⟩
theorem qju (x y k:Nat) (hk:0<k):qdw (x*k) (y*k)=qdw x y:=by
 unfold qdw;have e1:x*k<y*k↔x<y:=⟨fun h=>Nat.lt_of_mul_lt_mul_right h,fun h=>Nat.mul_lt_mul_of_pos_right h hk⟩;have e2:y*k<x*k↔y<x:=⟨fun h=>Nat.lt_of_mul_lt_mul_right h,fun h=>Nat.mul_lt_mul_of_pos_right h hk⟩;simp only[e1,e2]
theorem qpt {x y:Nat} (h:x<y):qdw x y= -1:=if_pos h
theorem qjn {x y:Nat} (h:y<x):qdw x y=1:=by unfold qdw;rw[if_neg (by omega),if_pos h]
theorem qk8 {x y:Nat} (h:x=y):qdw x y=0:=by unfold qdw;rw[if_neg (by omega),if_neg (by omega)]
theorem qjy (x y a b:Nat) (hx:(bg x).length≤a) (hy:(bg y).length≤b):(bg (x*y)).length≤a+b:=by
 refine qd0 (a+b) _ ?_;rw[Nat.pow_add];have h1:x<65536^a:=Nat.lt_of_lt_of_le (qsB x) (Nat.pow_le_pow_right (by decide) hx);have h2:y<65536^b:=Nat.lt_of_lt_of_le (qsB y) (Nat.pow_le_pow_right (by decide) hy);exact Nat.mul_lt_mul'' h1 h2
theorem qqh (n:Nat):(bg (2^n)).length≤n/16+1:=by
 refine qd0 _ _ ?_;rw[show(65536:Nat)=2^16 from rfl,←Nat.pow_mul];exact Nat.pow_lt_pow_right (by decide) (by omega)
theorem qsX (x:Nat) (h:x<18446744073709551616):(bg x).length≤4:=qd0 4 x h
theorem qob (f d n a e K:Nat) (h:e=a+K):qdw (f*d*2^a) n=qdw (f*2^e*d) (n*U2 K):=by
 subst h;have hk:0<U2 K:=by unfold U2;exact Nat.two_pow_pos _
 rw[←qju _ _ _ hk]
 congr 1
 rw[Nat.pow_add,show(2:Nat)^K=U2 K from rfl];generalize U2 K=U;generalize 2^a=A;rw[Nat.mul_assoc f d,Nat.mul_assoc f,Nat.mul_assoc f,Nat.mul_comm d,Nat.mul_assoc A,Nat.mul_assoc A,Nat.mul_comm d U]
theorem qpb (f d n e b K:Nat) (h:e+b=K):qdw (f*d) (n*2^b)=qdw (f*2^e*d) (n*U2 K):=by
 rw[←qju _ _ (2^e) (Nat.two_pow_pos _)]
 congr 1
 ·rw[Nat.mul_assoc,Nat.mul_comm d,Nat.mul_assoc]
 ·unfold U2;rw[Nat.mul_assoc,←Nat.pow_add,Nat.add_comm b e,h]
theorem qv0 (r:Nat):fr r<9007199254740992:=by unfold fr;split<;>omega
theorem qv7 (r:Nat) (h:r<INF):ex r≤2046:=by
 have hI:INF=9218868437227405312:=rfl;unfold ex;split<;>omega
theorem qmQ (r:Nat) (hr:r<INF) (n d:Nat) (hn0:0<n) (hd0:0<d) (a1 a2:Option Addr) (c1 c2:Nat) (hn:(bg n).length≤400) (hd:(bg d).length≤400) (w:World) (h1:qbI w a1 c1 (bg n)) (h2:qbI w a2 c2 (bg d)):
 Calls Tryz.prog 267 #[.int .u64 r,.slice a1 (bg n).length c1,.slice a2 (bg d).length c2] w fun e w'=>e= .returned (.int .i64 (qdw (M r*d) (n*U2 1075)))∧Below w.heap.size w w':=by
 have hI:INF=9218868437227405312:=rfl;have cp:=qkt r (by omega) w;obtain⟨f,hf⟩: ∃f,Hid (f=fr r):=⟨_,Lh rfl⟩;have hfb:f<9007199254740992:=by rw[hf.out];exact qv0 r
 obtain⟨x,hx⟩: ∃x,Hid (x=ex r):=⟨_,Lh rfl⟩;have hx1:1≤x:=by rw[hx.out];exact ql7 r
 have hx2:x≤2046:=by rw[hx.out];exact qv7 r hr
 obtain⟨E,hE⟩: ∃E:Int,E=(x:Int) - 1075:=⟨_,rfl⟩;rw[←hf.out,←hx.out,←hE] at cp;have hEb: -1075≤E∧E≤971:=by omega
 replace hE:=Lh hE;obtain⟨F,hF⟩: ∃F,F=2*f+1:=⟨_,rfl⟩;have hFi:2*(f:Int)+1=(F:Int):=by omega
 have hFb:F<18014398509481984:=by omega
 have hF0:0<F:=by omega
 have hM:Hid (M r=F*2^(x - 1)):=Lh (by unfold M;rw[←hf.out,←hx.out,←hF]);have hFl:=qsX F (by omega);have hpl:=qjy F d 4 400 hFl hd;have cs:=Lh (fun W=>qlW F (by omega) W);obtain⟨res,hres⟩: ∃res,Hid (res=qdw (M r*d) (n*U2 1075)):=⟨_,Lh rfl⟩;rw[←hres.out];have h1h:=Lh h1;have h2h:=Lh h2;have cph:=Lh cp;clear cp h1 h2 hF hI;obtain⟨ln,hln⟩: ∃ln,Hid (ln=(bg n).length):=⟨_,Lh rfl⟩;obtain⟨ld,hld⟩: ∃ld,Hid (ld=(bg d).length):=⟨_,Lh rfl⟩;rw[←hln.out,←hld.out];go_enter Tryz.func267,Tryz.ntmps267;go_wp2_with fail;refine cph.out.mono ?_;rintro e w1 ⟨rfl,rfl⟩;clear cph;go_wp2_with fail;refine(cs.out _).mono ?_;rintro e w1 ⟨a3,c3,rfl,hN3,hb3⟩;have B1:=Lh hb3;have N3:=Lh hN3;clear hN3 hb3 cs;obtain⟨l3,hl3⟩: ∃l3,Hid (l3=(bg F).length):=⟨_,Lh rfl⟩;rw[←hl3.out];have cq:=Lh (qeN a3 a2 c3 c2 F d (by omega) (by omega) w1 N3.out (h2h.out.on B1.out));rw[←hl3.out,←hld.out] at cq;go_wp2_with fail;refine cq.out.mono ?_;rintro e w2 ⟨a4,c4,rfl,hN4,hb4⟩;have B2:=Lh (B1.out.trans (hb4.mono B1.out.size));have N4:=Lh hN4;clear hN4 hb4 cq B1 N3 h2h;obtain⟨l4,hl4⟩: ∃l4,Hid (l4=(bg (F*d)).length):=⟨_,Lh rfl⟩;rw[←hl4.out]
 by_cases hc:1076≤x
 ·obtain⟨a,ha⟩: ∃a:Nat,E - 1=(a:Int):=⟨x - 1076,by have:=hE.out;omega⟩;have hax:x - 1=a+1075:=by have:=hE.out;omega
  have t1:decide ((0:Int)≤(a:Int))=true:=dT (by omega);have ha2:a≤970:=by have:=hE.out;omega
  have hp0:=Nat.mul_pos hF0 hd0;have hr2:Hid (qdw (F*d*2^a) n=res):=Lh (by rw[hres.out,hM.out];exact qob F d n a _ _ hax);have hbl:=qjy (F*d) (2^a) 404 62 hpl (Nat.le_trans (qqh a) (by omega));have cm:=Lh (qhO a4 c4 (F*d) a (by omega) (by omega) hp0 w2 N4.out);rw[←hl4.out] at cm;have hbh:=Lh hbl;have hph:=Lh hp0;have hnh:=Lh hn;clear hpl hax hM hres N4 hbl hp0 hE hn;go_wp2_with fail;refine cm.out.mono ?_;rintro e w3 ⟨a5,c5,rfl,hN5,hb5⟩;have B3:=Lh (B2.out.trans (hb5.mono B2.out.size));have cc:=Lh (qdT a5 a1 c5 c1 (F*d*2^a) n (by have:=hbh.out;omega) (by have:=hnh.out;omega) w3 hN5 (h1h.out.on B3.out));rw[←hln.out,hr2.out] at cc;clear hN5 hb5 B2 cm hr2;obtain⟨l5,hl5⟩: ∃l5,Hid (l5=(bg (F*d*2^a)).length):=⟨_,Lh rfl⟩;rw[←hl5.out] at cc⊢;go_wp2_with fail;refine cc.out.mono ?_;rintro e w4 ⟨rfl,hb6⟩;have B4:=Lh (B3.out.trans (hb6.mono B3.out.size));clear hb6 cc;go_wp2_with fail;go_ret;exact⟨rfl,B4.out⟩
 ·obtain⟨b,hb⟩: ∃b:Nat,(1:Int) - E=(b:Int):=⟨1076 - x,by have:=hE.out;omega⟩;have hb2:b≤1075:=by have:=hE.out;omega
  have hE1: ¬(1:Int)≤E:=by have:=hE.out;omega
  have t1:decide ((1:Int)≤E)=false:=dF hE1;have hr2:Hid (qdw (F*d) (n*2^b)=res):=Lh (by rw[hres.out,hM.out];exact qpb F d n (x - 1) b _ (by have:=hE.out;omega));have hbl:=qjy n (2^b) 400 70 (by omega) (Nat.le_trans (qqh b) (by omega));have cm:=Lh (qhO a1 c1 n b (by omega) (by omega) hn0 w2 (h1h.out.on B2.out));rw[←hln.out] at cm;have hbh:=Lh hbl;have hph:=Lh hpl;clear hM hres hbl hpl hE hn;go_wp2_with fail;refine cm.out.mono ?_;rintro e w3 ⟨a5,c5,rfl,hN5,hb5⟩;have B3:=Lh (B2.out.trans (hb5.mono B2.out.size));have cc:=Lh (qdT a4 a5 c4 c5 (F*d) (n*2^b) (by have:=hph.out;omega) (by have:=hbh.out;omega) w3 (N4.out.on hb5) hN5);rw[←hl4.out,hr2.out] at cc;clear hN5 hb5 B2 cm hr2 N4;obtain⟨l5,hl5⟩: ∃l5,Hid (l5=(bg (n*2^b)).length):=⟨_,Lh rfl⟩;rw[←hl5.out] at cc⊢;go_wp2_with fail;refine cc.out.mono ?_;rintro e w4 ⟨rfl,hb6⟩;have B4:=Lh (B3.out.trans (hb6.mono B3.out.size));clear hb6 cc;go_wp2_with fail;go_ret;exact⟨rfl,B4.out⟩
theorem qhY (N d r:Nat) (hd:0<d) (h1:r≤INF) (h2:r<INF→N≤M r*d) (h3:0<r→M (r - 1)*d<N) (h: ¬(r<INF∧N=M r*d∧r%2=1)):qbd N d r:=
 ⟨h1,fun hr=>⟨h2 hr,fun e=>by
  rcases Nat.mod_two_eq_zero_or_one r with h0|h0
  ·exact h0
  ·exact absurd ⟨hr,e,h0⟩ h⟩,fun hr=>⟨Nat.le_of_lt (h3 hr),fun e=>by have:=h3 hr;omega⟩⟩
theorem qfn (N d r:Nat) (hd:0<d) (h1:r<INF) (h2:N=M r*d) (h3:r%2=1):qbd N d (r+1):=
 ⟨h1,fun hr=>⟨by rw[h2];exact Nat.le_of_lt (Nat.mul_lt_mul_of_pos_right (qvo (Nat.lt_succ_self r)) hd),fun _=>by omega⟩,fun hr=>⟨by rw[h2,Nat.add_sub_cancel];exact Nat.le_refl _,fun _=>by omega⟩⟩
theorem qe0 (n d:Nat) (hn0:0<n) (hd0:0<d) (a1 a2:Option Addr) (c1 c2:Nat) (hn:(bg n).length≤400) (hd:(bg d).length≤400) (w:World) (h1:qbI w a1 c1 (bg n)) (h2:qbI w a2 c2 (bg d)):
 Calls Tryz.prog 247 #[.slice a1 (bg n).length c1,.slice a2 (bg d).length c2] w fun e w'=>(∃r:Nat,e= .returned (.int .u64 r)∧qbd (n*U2 1075) d r)∧Below w.heap.size w w':=by
 have hI:INF=9218868437227405312:=rfl;have ca:=Lh (fun r (hr:r<INF) W (hb:Below w.heap.size w W)=>qmQ r hr n d hn0 hd0 a1 a2 c1 c2 hn hd W (h1.on hb) (h2.on hb));have hs:=Lh (fun r=>qhY (n*U2 1075) d r hd0);have hs2:=Lh (fun r=>qfn (n*U2 1075) d r hd0);have hml:=Lh (fun a b (h:a≤b)=>Nat.mul_le_mul_right d (qma h));obtain⟨T,hT⟩: ∃T,Hid (T=n*U2 1075):=⟨_,Lh rfl⟩;rw[←hT.out] at ca hs hs2⊢;obtain⟨ln,hln⟩: ∃ln,Hid (ln=(bg n).length):=⟨_,Lh rfl⟩;obtain⟨ld,hld⟩: ∃ld,Hid (ld=(bg d).length):=⟨_,Lh rfl⟩;rw[←hln.out,←hld.out] at ca⊢;clear hn hd h1 h2 hn0 hd0 hT hln hld;obtain⟨I,hIe⟩: ∃I,I=INF:=⟨_,rfl⟩;rw[←hIe] at hI ca hs hs2;have hIh:=Lh hI;clear hIe;go_enter Tryz.func247,Tryz.ntmps247;go_upto_block 0 with (fail)
 go_cut [5] (fun s5 wx=> ∃r:Nat,s5= .int .u64 (r:Int)∧r≤9218868437227405312∧Hid (r<I→T≤M r*d)∧Hid (0<r→M (r - 1)*d<T)∧Hid (Below w.heap.size w wx))
 case first=>
  go_wp2_with fail;go_loopg [5,6] (9218868437227405312+1) (fun gk s5 s6 wx=> ∃l h:Nat,s5= .int .u64 (l:Int)∧s6= .int .u64 (h:Int)∧l≤h∧h≤9218868437227405312∧h - l<gk∧Hid (h<I→T≤M h*d)∧Hid (0<l→M (l - 1)*d<T)∧Hid (Below w.heap.size w wx))
  case atStart=>exact⟨0,9218868437227405312,rfl,rfl,by omega,by omega,by omega,Lh (fun h=>by omega),Lh (fun h=>by omega),Lh (Below.refl _ _)⟩
  case round=>
   obtain⟨l,h,rfl,rfl,hlh,hh,hgk,HH,HL,B⟩:=hrel
   by_cases hlt:l<h
   ·have t1:decide ((l:Int)<(h:Int))=true:=dT (by omega);obtain⟨m,hm⟩: ∃m,m=l+(h - l)/2:=⟨_,rfl⟩;have hmi:(l:Int)+((h:Int) - (l:Int))/2=(m:Int):=by omega
    have hm1:l≤m:=by omega
    have hm2:m<h:=by omega
    have hc:=Lh (ca.out m (by omega) wr B.out);have hmh:=Lh hm;clear hm
    by_cases hab:M m*d<T
    ·rw[qpt hab] at hc;have HL2:Hid (0<m+1→M (m+1 - 1)*d<T):=Lh (fun _=>by rw[Nat.add_sub_cancel];exact hab);clear hab HL;go_wp2_with fail;refine hc.out.mono ?_;rintro e w3 ⟨rfl,hb⟩;replace B:=Lh (B.out.trans (hb.mono B.out.size));clear hb hc;go_wp2_with fail;go_roundg (gk - 1)
     case measure=>omega
     case rel=>exact⟨m+1,h,by go_num,rfl,by omega,hh,by omega,HH,HL2,B⟩
    ·have hc0: ∃q:Int,qdw (M m*d) T=q∧0≤q∧q≤1:=by
      by_cases he:T<M m*d
      ·exact⟨1,qjn he,by decide,by decide⟩
      ·exact⟨0,qk8 (by omega),by decide,by decide⟩
     obtain⟨q,hq,hq0,hq1⟩:=hc0;rw[hq] at hc;have HH2:Hid (m<I→T≤M m*d):=Lh (fun _=>by omega);clear hab HH hq;have t2:decide (q<0)=false:=dF (by omega);go_wp2_with fail;refine hc.out.mono ?_;rintro e w3 ⟨rfl,hb⟩;replace B:=Lh (B.out.trans (hb.mono B.out.size));clear hb hc;go_wp2_with fail;go_roundg (gk - 1)
     case measure=>omega
     case rel=>exact⟨l,m,rfl,rfl,by omega,by omega,by omega,HH2,HL,B⟩
   ·obtain rfl:l=h:=by omega
    have t1:decide ((l:Int)<(l:Int))=false:=dF (by omega);go_wp2_with fail;go_meet;exact⟨l,rfl,hh,HH,HL,B⟩
 case rest=>
  obtain⟨r,rfl,hr,HH,HL,B⟩:=hcut
  by_cases hlt:r<I
  ·have t1:decide ((r:Int)<9218868437227405312)=true:=dT (by omega);have hc:=Lh (ca.out r hlt _ B.out)
   by_cases he:T=M r*d
   ·rw[qk8 he.symm] at hc;rcases Nat.mod_two_eq_zero_or_one r with h0|h0
    ·have hN:=Lh (hs.out r (by omega) HH.out HL.out (fun h=>by omega));have t3:(r:Int)%2=0:=by omega
     clear he HH HL ca hs hs2 hml h0;go_wp2_with fail;refine hc.out.mono ?_;rintro e w3 ⟨rfl,hb⟩;replace B:=Lh (B.out.trans (hb.mono B.out.size));clear hb hc;go_wp2_with fail;go_ret;exact⟨⟨r,rfl,hN.out⟩,B.out⟩
    ·have hN:=Lh (hs2.out r hlt he h0);have t3:(r:Int)%2=1:=by omega
     clear he HH HL ca hs hs2 hml h0;go_wp2_with fail;refine hc.out.mono ?_;rintro e w3 ⟨rfl,hb⟩;replace B:=Lh (B.out.trans (hb.mono B.out.size));clear hb hc;go_wp2_with fail;go_ret;exact⟨⟨r+1,by go_num,hN.out⟩,B.out⟩
   ·have hc0: ∃q:Int,qdw (M r*d) T=q∧(q==0)=false:=by
     by_cases h':T<M r*d
     ·exact⟨1,qjn h',rfl⟩
     ·have:=HH.out hlt;omega
    obtain⟨q,hq,hq0⟩:=hc0;rw[hq] at hc;have hN:=Lh (hs.out r (by omega) HH.out HL.out (fun h=>he h.2.1));clear he HH HL ca hs hs2 hml hq;go_wp2_with fail;refine hc.out.mono ?_;rintro e w3 ⟨rfl,hb⟩;replace B:=Lh (B.out.trans (hb.mono B.out.size));clear hb hc;go_wp2_with fail;go_ret;exact⟨⟨r,rfl,hN.out⟩,B.out⟩
  ·have t1:decide ((r:Int)<9218868437227405312)=false:=dF (by omega);have hN:=Lh (hs.out r (by omega) HH.out HL.out (fun h=>hlt h.1));clear HH HL ca hs hs2 hml;go_wp2_with fail;go_ret;exact⟨⟨r,rfl,hN.out⟩,B.out⟩
def DcB (w:World) (D:Nat) (v:Value) (b e:Int) (ng:Bool):Prop:=w.heap[D]?=some (.cells #[v,.int .i64 b,.int .i64 e,.bool ng] 239 (0,0))
theorem DcB.lt {w:World} {D:Nat} {v:Value} {b e:Int} {ng:Bool} (h:DcB w D v b e ng):D<w.heap.size:=(Array.getElem?_eq_some_iff.1 h).1
theorem DcB.c0 {w:World} {D:Nat} {v:Value} {b e:Int} {ng:Bool} (h:DcB w D v b e ng):w.cell? ⟨D,0,none⟩=some v:=by rw[qbp h];rfl
theorem DcB.c1 {w:World} {D:Nat} {v:Value} {b e:Int} {ng:Bool} (h:DcB w D v b e ng):w.cell? ⟨D,1,none⟩=some (.int .i64 b):=by rw[qbp h];rfl
theorem DcB.c2 {w:World} {D:Nat} {v:Value} {b e:Int} {ng:Bool} (h:DcB w D v b e ng):w.cell? ⟨D,2,none⟩=some (.int .i64 e):=by rw[qbp h];rfl
theorem DcB.c3 {w:World} {D:Nat} {v:Value} {b e:Int} {ng:Bool} (h:DcB w D v b e ng):w.cell? ⟨D,3,none⟩=some (.bool ng):=by rw[qbp h];rfl
theorem DcB.fz {w:World} {D:Nat} {v:Value} {b e:Int} {ng:Bool} (h:DcB w D v b e ng) (i:Nat):w.frozen? ⟨D,i,none⟩=false:=by
 unfold World.frozen?;simp only[show w.heap[D]?=_ from h];simp
theorem DcB.oth {w w':World} {D:Nat} {v:Value} {b e:Int} {ng:Bool} (h:DcB w D v b e ng) (e1:w'.heap[D]?=w.heap[D]?):DcB w' D v b e ng:=e1.trans h
theorem DcB.on {w w':World} {D:Nat} {v:Value} {b e:Int} {ng:Bool} (h:DcB w D v b e ng) (hb:Below w.heap.size w w'):DcB w' D v b e ng:=h.oth (hb.block D h.lt)
theorem DcB.set0 {w:World} {D:Nat} {v:Value} {b e:Int} {ng:Bool} (h:DcB w D v b e ng) (u:Value):DcB (w.setCell ⟨D,0,none⟩ u) D u b e ng:=qb4 h 0 u
theorem DcB.set1 {w:World} {D:Nat} {v:Value} {b e:Int} {ng:Bool} (h:DcB w D v b e ng) (u:Int):DcB (w.setCell ⟨D,1,none⟩ (.int .i64 u)) D v u e ng:=qb4 h 1 _
theorem DcB.set2 {w:World} {D:Nat} {v:Value} {b e:Int} {ng:Bool} (h:DcB w D v b e ng) (u:Int):DcB (w.setCell ⟨D,2,none⟩ (.int .i64 u)) D v b u ng:=qb4 h 2 _
theorem DcB.set3 {w:World} {D:Nat} {v:Value} {b e:Int} {ng:Bool} (h:DcB w D v b e ng) (u:Bool):DcB (w.setCell ⟨D,3,none⟩ (.bool u)) D v b e u:=qb4 h 3 _
theorem DcB.new (w:World) (v:Value) (b e:Int) (ng:Bool):DcB (w.alloc (.cells #[v,.int .i64 b,.int .i64 e,.bool ng] 239)) w.heap.size v b e ng:=Array.getElem?_push_size
def dn (l:List Nat):Nat:=l.foldl (fun v x=>v*10+x) 0
theorem qq5 (l:List Nat): ∀v,l.foldl (fun v x=>v*10+x) v=v*10^l.length+dn l:=by
 induction l with
 |nil=>intro v;simp[dn]
 |cons x t ih=>
  intro v;unfold dn;rw[List.foldl_cons,List.foldl_cons,ih,ih (0*10+x),List.length_cons,Nat.pow_succ,Nat.zero_mul,Nat.zero_add,Nat.add_mul,Nat.mul_assoc,Nat.mul_comm 10,Nat.add_assoc]
theorem qiy (x:Nat) (t:List Nat):dn (x::t)=x*10^t.length+dn t:=by
 show List.foldl _ (0*10+x) t=_;rw[qq5,Nat.zero_mul,Nat.zero_add]
theorem qr1 (t:List Nat) (x:Nat):dn (t++[x])=dn t*10+x:=by
 unfold dn;rw[List.foldl_append];rfl
theorem qre (l:List Nat) (h: ∀x∈l,x≤9):dn l<10^l.length:=by
 induction l with
 |nil=>decide
 |cons x t ih=>
  have h1:=ih (fun y hy=>h y (List.mem_cons_of_mem _ hy));have h2:=h x (List.mem_cons_self ..);rw[qiy,List.length_cons,Nat.pow_succ];have:x*10^t.length≤9*10^t.length:=Nat.mul_le_mul_right _ h2;omega
theorem qqY (t:List Nat):dn (0::t)=dn t:=by rw[qiy,Nat.zero_mul,Nat.zero_add]
theorem qvO (x:Nat) (t:List Nat) (h:1≤x):10^t.length≤dn (x::t):=by
 rw[qiy];have:1*10^t.length≤x*10^t.length:=Nat.mul_le_mul_right _ h;omega
theorem qsO:T10 1210<T16 252:=by unfold T10 T16;decide+kernel
theorem qkH (x:Nat) (h:x<T10 1210):(bg x).length≤252:=qiq 252 x (Nat.lt_trans h qsO)
theorem qpC:T10 1541<T16 320:=by unfold T10 T16;decide+kernel
theorem qqP:T10 310<T16 65:=by unfold T10 T16;decide+kernel
theorem qr8 (x k:Nat) (h:x=10^k) (hk:k≤1541):(bg x).length≤320:=by
 refine qiq 320 x (Nat.lt_of_le_of_lt ?_ qpC);rw[h,show 10^k=T10 k from rfl];exact qbH hk
theorem qqV (x k:Nat) (h:x=10^k) (hk:k≤310):(bg x).length≤65:=by
 refine qiq 65 x (Nat.lt_of_le_of_lt ?_ qqP);rw[h,show 10^k=T10 k from rfl];exact qbH hk
theorem qtc (k n:Nat) (h:10^k<T10 n):k<n:=by
 apply Nat.lt_of_not_le;intro hle;have:=Nat.pow_le_pow_right (show 0<10 by decide) hle;unfold T10 at h;omega
theorem qvw (v b r:Nat) (x:Int) (hx:x=(b:Int)) (h:qbd (v*10^b*U2 1075) 1 r):qaW v x r:=by
 unfold qaW;rw[hx,Int.toNat_natCast,show(-(b:Int)).toNat=0 by omega,←qrm];exact h
theorem qvJ (v b r:Nat) (x:Int) (hx: -x=(b:Int)) (h:qbd (v*U2 1075) (10^b) r):qaW v x r:=by
 unfold qaW;rw[show x.toNat=0 by omega,hx,Int.toNat_natCast,←qrm,Nat.pow_zero,Nat.mul_one];exact h
theorem qk0:bg 1=[1]:=by rw[qcb 1 (by decide),show 1/65536=0 by decide,qa0]
theorem qnH (w:World):qbI (w.alloc (.cells #[.int .i64 1] 3)) (some ⟨w.heap.size,0,none⟩) 1 (bg 1):=by
 rw[qk0];refine qbI.of (.inr ⟨w.heap.size,0,1,rfl,by simp,by simp,by unfold maxLen;decide,fun i hi=>?_⟩);obtain rfl:i=0:=by simp at hi;exact hi
 rw[Lib.cell_of_heap (Array.getElem?_push_size)];rfl
theorem qeM (a:Option Addr) (c:Nat) (l:List Nat) (hl:l.length≤1300) (h9: ∀x∈l,x≤9) (b:Nat) (hb:b≤1300) (E:Int) (hE:E.natAbs≤99999) (ng:Bool) (w:World) (hr:qbI w a c l) (hs:dn l<T10 1210):
 Calls Tryz.prog 193 #[.agg #[.slice a l.length c,.int .i64 b,.int .i64 E,.bool ng]] w fun e w'=>(∃r:Nat,e= .returned (.int .u64 r)∧qaW (dn l) (E - b) r)∧Below w.heap.size w w':=by
 obtain⟨bb,off,hat⟩:=hr.at';have hcap:=hr.cap;have hath:=Lh hat;have h9h:=Lh h9;have hsh:=Lh hs;obtain⟨n,hn⟩: ∃n,n=l.length:=⟨_,rfl⟩;have hnh:=Lh hn;rw[←hn] at hcap hl⊢;clear hat h9 hs hn hr;obtain⟨g,hg⟩: ∃g,g=w.heap.size:=⟨_,rfl⟩;have hgh:=Lh hg;clear hg;have hnew:=Lh (DcB.new w (.slice a n c) b E ng);obtain⟨v,hv⟩: ∃v,Hid (v=dn l):=⟨_,Lh rfl⟩;obtain⟨y,hy⟩: ∃y:Int,E - (b:Int)=y:=⟨_,rfl⟩;rw[←hv.out,hy];have hyb: -200000≤y∧y≤200000:=by omega
 go_enter Tryz.func193,Tryz.ntmps193;go_wp2_with fail;go_loopg [17] (n+1) (fun gk s17 wx=> ∃(i:Nat) (q:Option Addr),n - i<gk∧i≤n∧Hid (DcB wx w.heap.size (.slice q (n - i) (c - i)) b E ng)∧Hid (i<n→q=some ⟨bb,off+i,none⟩)∧Hid (dn (l.drop i)=dn l)∧Hid (Below w.heap.size w wx))
 case atStart=>exact⟨0,a,by omega,by omega,hnew,Lh (fun h=>(hath.out 0 (by rw[←hnh.out];exact h)).1),Lh (by rw[List.drop_zero]),Lh ((Below.refl _ _).alloc (Nat.le_refl _) _)⟩
 case round=>
  obtain⟨i,q,hgk,hi,hD,hq,hdn,B⟩:=hrel;have c0:=hD.out.c0;have fz:=hD.out.fz 0
  by_cases h0:i<n
  ·obtain rfl:=hq.out h0;obtain⟨-,hbw,hcell⟩:=hath.out i (by rw[←hnh.out];exact h0);have hxc:wr.cell? ⟨bb,off+i,none⟩=some (.int .i64 ((l.getD i 0:Nat):Int)):=by rw[B.out.cell (p:=⟨bb,off+i,none⟩) hbw];exact hcell
   have hdrop:=drop_at l i (by rw[←hnh.out];exact h0)
   have hx9:l.getD i 0≤9:=by
    rw[gZd,gZq (by rw[←hnh.out];exact h0)];exact h9h.out _ (List.getElem_mem _)
   obtain⟨x,hx⟩: ∃x,Hid (x=l.getD i 0):=⟨_,Lh rfl⟩;rw[←hx.out] at hxc hx9 hdrop;have hdroph:=Lh hdrop;clear hcell hdrop hbw;obtain⟨m,hm⟩: ∃m,n - i=m+1:=⟨n - i - 1,by omega⟩;obtain⟨C,hC⟩: ∃C,c - i=C+1:=⟨c - i - 1,by omega⟩;rw[hm,hC] at c0;have hDh:Hid (DcB wr w.heap.size (.slice (some ⟨bb,off+i,none⟩) (m+1) (C+1)) b E ng):=Lh (by rw[←hm,←hC];exact hD.out);have t1:decide ((0:Int)<((m+1:Nat):Int))=true:=dT (by omega);clear hD hq;have hmm:=Lh hm;have hCC:=Lh hC;clear hm hC
   by_cases hz:x=0
   ·subst hz;have hmc:m≤C:=by have:=hmm.out;have:=hCC.out;omega
    have hdn2:Hid (dn (l.drop (i+1))=dn l):=Lh (by rw[←hdn.out,hdroph.out,qqY]);clear hdn hdroph hx hx9;have B2: ∀v,Hid (Below w.heap.size w (wr.setCell ⟨w.heap.size,0,none⟩ v)):=fun v=>Lh (B.out.setCell (p:=⟨w.heap.size,0,none⟩) (Nat.le_refl _) v)
    by_cases hC0:C=0
    ·obtain rfl:m=0:=by omega
     subst hC0;go_wp2_with fail;go_roundg (gk - 1)
     case measure=>omega
     case rel=>
      have e1:n - (i+1)=0:=by have:=hmm.out;omega
      have e2:c - (i+1)=0:=by have:=hCC.out;omega
      refine⟨i+1,_,by omega,by omega,Lh (by rw[e1,e2];exact hDh.out.set0 _),Lh (fun h=>by omega),hdn2,B2 _⟩
    ·go_wp2_with fail;go_roundg (gk - 1)
     case measure=>omega
     case rel=>
      have e1:n - (i+1)=m:=by have:=hmm.out;omega
      have e2:c - (i+1)=C:=by have:=hCC.out;omega
      refine⟨i+1,_,by omega,by omega,Lh (by rw[e1,e2];exact hDh.out.set0 _),Lh (fun h=>by rw[Nat.add_assoc]),hdn2,B2 _⟩
   ·have hx1:1≤x:=by omega
    have hzi:((x:Int)==0)=false:=beq_eq_false_iff_ne.2 (by omega);have hlen:(l.drop i).length=m+1:=by rw[List.length_drop,←hnh.out];exact hmm.out
    have hlo:10^m≤dn l:=by
     rw[←hdn.out,hdroph.out];have:=qvO x (l.drop (i+1)) hx1;have e:(l.drop (i+1)).length=m:=by rw[List.length_drop,←hnh.out];have:=hmm.out;omega
     rw[e] at this;exact this
    have hup:dn l<10^(m+1):=by
     rw[←hdn.out,←hlen];exact qre _ (fun y hy=>h9h.out y (List.mem_of_mem_drop hy))
    have hm420:m<1210:=qtc m 1210 (Nat.lt_of_le_of_lt hlo hsh.out)
    have hatL:Hid (∀j,j<m+1→wr.cell? ⟨bb,off+i+j,none⟩=some (.int .i64 (((l.drop i).getD j 0:Nat):Int))):=Lh (fun j hj=>by
     have hij:i+j<l.length:=by rw[←hnh.out];have:=hmm.out;omega
     obtain⟨-,hbw,hcell⟩:=hath.out (i+j) hij;rw[Nat.add_assoc,B.out.cell (p:=⟨bb,off+(i+j),none⟩) hbw,hcell]
     rw[gZd,gZd,List.getElem?_drop])
    have hbw:bb<wr.heap.size:=by
     obtain⟨-,hbw,-⟩:=hath.out i (by rw[←hnh.out];exact h0);exact Nat.lt_of_lt_of_le hbw B.out.size
    have hL9:Hid (∀y∈l.drop i,y≤9):=Lh (fun y hy=>h9h.out y (List.mem_of_mem_drop hy));obtain⟨L,hLd⟩: ∃L,Hid (L=l.drop i):=⟨_,Lh rfl⟩;rw[←hLd.out] at hatL hL9 hlen hdn;rw[←hv.out] at hlo hup hdn hsh;have c1:=hDh.out.c1;have c2:=hDh.out.c2;have hloh:=Lh hlo;have huph:=Lh hup;have hlenh:=Lh hlen;clear hlo hup hlen hx hdroph hath hnh h9h hnew hz hmm hCC hv hLd hcap hi hgk hl
    by_cases s1:310<(m:Int)+1+y
    ·have hN:=Lh (qi7 (v:=v) (x:=y) (k:=m) hloh.out (by omega));have t2:decide (310<(m:Int)+1+y)=true:=dT s1;clear s1;go_wp2_with fail;go_ret;exact⟨⟨INF,rfl,hN.out⟩,B.out⟩
    ·have t2:decide (310<(m:Int)+1+y)=false:=dF s1
     by_cases s2:(m:Int)+1+y< -330
     ·have hN:=Lh (qeb (v:=v) (x:=y) (k:=m+1) huph.out (by omega));have t3:decide ((m:Int)+1+y< -330)=true:=dT s2;clear s1 s2;go_wp2_with fail;go_ret;exact⟨⟨0,rfl,hN.out⟩,B.out⟩
     ·have t3:decide ((m:Int)+1+y< -330)=false:=dF s2;have hy2: -1542<y∧y≤310:=by omega
      clear s1 s2 hyb;go_upto_block 2 with (fail)
      go_cut [5] (fun s5 wx=> ∃(a5:Option Addr) (c5:Nat),s5= .slice a5 (bg v).length c5∧Hid (qbI wx a5 c5 (bg v))∧Hid (Below w.heap.size w wx))
      case first=>
       go_wp2_with fail;go_loopg [5,6] (m+2) (fun gk s5 s6 wx=> ∃(i:Nat) (a5:Option Addr) (c5:Nat),m+1 - i<gk∧i≤m+1∧s6= .int .i64 (i:Int)∧s5= .slice a5 (bg (dn (L.take i))).length c5∧Hid (qbI wx a5 c5 (bg (dn (L.take i))))∧Hid (Below wr.heap.size wr wx))
       case atStart=>
        have e:bg (dn (L.take 0))=[]:=by rw[List.take_zero];exact qa0
        exact⟨0,none,0,by omega,by omega,rfl,by rw[e];rfl,Lh (by rw[e];exact qbI.of (.inl ⟨none,0,fun _=>rfl,rfl,rfl⟩)),Lh (Below.refl _ _)⟩
       case round=>
        obtain⟨i2,a5,c5,hg2,hi2,rfl,rfl,hN5,B5⟩:=hrel;have c0':=(hDh.out.on B5.out).c0;have c1':wr.heap.size=wr.heap.size:=rfl
        have hP:Hid (dn (L.take i2)<T10 1210):=Lh (Nat.lt_of_lt_of_le (qre _ (fun z hz=>hL9.out z (List.mem_of_mem_take hz))) (by
         rw[List.length_take,hlenh.out,Nat.min_eq_left hi2];exact qbH (by omega)))
        by_cases hlt:i2<m+1
        ·have t4:decide ((i2:Int)<(m:Int)+1)=true:=dT (by omega);have hdc:wr.cell? ⟨bb,off+i+i2,none⟩=some (.int .i64 ((L.getD i2 0:Nat):Int)):=by rw[B5.out.cell (p:=⟨bb,off+i+i2,none⟩) hbw];exact hatL.out i2 hlt
         have hd9:L.getD i2 0≤9:=by
          rw[gZd,gZq (by rw[hlenh.out];exact hlt)];exact hL9.out _ (List.getElem_mem _)
         have hstep:Hid (dn (L.take (i2+1))=dn (L.take i2)*10+L.getD i2 0):=Lh (by rw[qcr L i2 (by rw[hlenh.out];exact hlt),qr1]);obtain⟨P,hPd⟩: ∃P,Hid (P=dn (L.take i2)):=⟨_,Lh rfl⟩;rw[←hPd.out] at hP hstep hN5⊢;obtain⟨dg,hdg⟩: ∃dg,Hid (dg=L.getD i2 0):=⟨_,Lh rfl⟩;rw[←hdg.out] at hdc hd9 hstep;have ct:=Lh (qff a5 c5 P 10 dg (by decide) (by omega) (Nat.le_trans (qkH P hP.out) (by decide)) wr hN5.out);obtain⟨lp,hlp⟩: ∃lp,Hid (lp=(bg P).length):=⟨_,Lh rfl⟩;rw[←hlp.out] at ct⊢;clear hN5;go_wp2_with fail;refine ct.out.mono ?_;rintro e w3 ⟨v3,rfl,hO,hb⟩;obtain⟨a6,c6,rfl⟩:=hO.shape;have hN6:Hid (qbI w3 a6 c6 (bg (dn (L.take (i2+1))))):=Lh (by rw[hstep.out];exact hO.nrow);have B6:=Lh (B5.out.trans (hb.mono B5.out.size));rw[←hstep.out];clear hO hb ct B5;obtain⟨lq,hlq⟩: ∃lq,Hid (lq=(bg (dn (L.take (i2+1)))).length):=⟨_,Lh rfl⟩;rw[←hlq.out];go_wp2_with fail;go_roundg (gk - 1)
         case measure=>omega
         case rel=>exact⟨i2+1,a6,c6,by omega,by omega,by go_num,by rw[hlq.out],hN6,B6⟩
        ·obtain rfl:i2=m+1:=by omega
         have t4:decide (((m+1:Nat):Int)<(m:Int)+1)=false:=dF (by omega);have e:dn (L.take (m+1))=v:=by rw[←hlenh.out,List.take_length];exact hdn.out
         rw[e] at hN5⊢;have B6:=Lh (B.out.trans (B5.out.mono B.out.size));clear e B5;obtain⟨lq,hlq⟩: ∃lq,Hid (lq=(bg v).length):=⟨_,Lh rfl⟩;rw[←hlq.out];go_wp2_with fail;go_meet;exact⟨a5,c5,by rw[hlq.out],hN5,B6⟩
      case rest=>
       obtain⟨a5,c5,rfl,hN5,B5⟩:=hcut;have hv0:Hid (0<v):=Lh (Nat.lt_of_lt_of_le (Nat.pow_pos (by decide)) hloh.out);have hvl:Hid ((bg v).length≤252):=Lh (qkH v hsh.out);clear hDh hatL hL9 hlenh hloh huph hdn t1 c0 c1 c2 fz hxc hzi hbw
       by_cases y0:0≤y
       ·obtain⟨k,hk⟩: ∃k:Nat,y=(k:Int):=⟨y.toNat,by omega⟩;have hN:=Lh (fun r=>qvw v k r y hk);have hk3:k≤310:=by omega
        have t4:decide (0≤y)=true:=dT y0;have hpl:Hid ((bg (10^k)).length≤65):=Lh (qqV _ k rfl (by omega));have hql:Hid ((bg (v*10^k)).length≤317):=Lh (qjy v _ 252 65 hvl.out hpl.out);have cp:=Lh (qhn 10 k (by decide) (by omega) wc);rw[←hk] at cp;have hk0:=Lh hk;clear hk y0;obtain⟨lv,hlv⟩: ∃lv,Hid (lv=(bg v).length):=⟨_,Lh rfl⟩;rw[←hlv.out];go_wp2_with fail;refine cp.out.mono ?_;rintro e w1 ⟨a6,c6,rfl,hN6,hb6⟩;have B6:=Lh (B5.out.trans (hb6.mono B5.out.size));have cq:=Lh (qeN a5 a6 c5 c6 v (10^k) (by have:=hvl.out;omega) (by have:=hpl.out;omega) w1 (hN5.out.on hb6) hN6);rw[←hlv.out] at cq;obtain⟨lp,hlp⟩: ∃lp,Hid (lp=(bg (10^k)).length):=⟨_,Lh rfl⟩;rw[←hlp.out] at cq⊢;clear hN6 hb6 hN5 B5 cp;go_wp2_with fail;refine cq.out.mono ?_;rintro e w2 ⟨a7,c7,rfl,hN7,hb7⟩;have B7:=Lh (B6.out.trans (hb7.mono B6.out.size));have ba:=(Below.refl w2.heap.size w2).alloc (Nat.le_refl _) (.cells #[.int .i64 1] 3);have B8:=Lh (B7.out.trans (ba.mono B7.out.size));have cn:=qe0 (v*10^k) 1 (Nat.mul_pos hv0.out (Nat.pow_pos (by decide))) (by decide) a7 (some ⟨w2.heap.size,0,none⟩) c7 1 (by have:=hql.out;omega) (by rw[qk0];decide) (w2.alloc (.cells #[.int .i64 1] 3)) (hN7.on ba) (qnH w2);rw[show(bg 1).length=1 by rw[qk0];rfl] at cn;replace cn:=Lh cn;obtain⟨lq,hlq⟩: ∃lq,Hid (lq=(bg (v*10^k)).length):=⟨_,Lh rfl⟩;rw[←hlq.out] at cn⊢;clear hN7 hb7 ba cq B6 B7;go_wp2_with fail;refine cn.out.mono ?_;rintro e w3 ⟨⟨r,rfl,hR⟩,hb9⟩;have hRN:=Lh (hN.out r hR);have B9:=Lh (B8.out.trans (hb9.mono B8.out.size));clear hR hb9 cn;go_wp2_with fail;go_ret;exact⟨⟨r,rfl,hRN.out⟩,B9.out⟩
       ·obtain⟨k,hk⟩: ∃k:Nat,-y=(k:Int):=⟨(-y).toNat,by omega⟩;have hN:=Lh (fun r=>qvJ v k r y hk);have hk3:k≤1541:=by omega
        have t4:decide (0≤y)=false:=dF y0;have hpl:Hid ((bg (10^k)).length≤320):=Lh (qr8 _ k rfl hk3);have cp:=Lh (qhn 10 k (by decide) (by omega) wc);obtain⟨lv,hlv⟩: ∃lv,Hid (lv=(bg v).length):=⟨_,Lh rfl⟩;rw[←hlv.out];clear y0;go_wp2_with fail;refine cp.out.mono ?_;rintro e w1 ⟨a6,c6,rfl,hN6,hb6⟩;have B6:=Lh (B5.out.trans (hb6.mono B5.out.size));have cn:=Lh (qe0 v (10^k) hv0.out (Nat.pow_pos (by decide)) a5 a6 c5 c6 (by have:=hvl.out;omega) (by have:=hpl.out;omega) w1 (hN5.out.on hb6) hN6);rw[←hlv.out] at cn;obtain⟨lp,hlp⟩: ∃lp,Hid (lp=(bg (10^k)).length):=⟨_,Lh rfl⟩;rw[←hlp.out] at cn⊢;clear hN6 hb6 hN5 B5 cp;go_wp2_with fail;refine cn.out.mono ?_;rintro e w3 ⟨⟨r,rfl,hR⟩,hb9⟩;have hRN:=Lh (hN.out r hR);have B9:=Lh (B6.out.trans (hb9.mono B6.out.size));clear hR hb9 cn;go_wp2_with fail;go_ret;exact⟨⟨r,rfl,hRN.out⟩,B9.out⟩
  ·obtain rfl:i=n:=by omega
   have e0:i - i=0:=Nat.sub_self i;rw[e0] at c0
   have hv0:v=0:=by
    rw[hv.out,←hdn.out,List.drop_of_length_le (by rw[←hnh.out];exact Nat.le_refl _)];rfl
   have hN:=Lh (qgb y);rw[←hv0] at hN;have hvh:=Lh hv0;clear hD hq hdn hv0 e0 hnew;go_wp2_with fail;go_ret;exact⟨⟨0,rfl,by have:=hN.out;rw[hvh.out] at this⊢;exact this⟩,B.out⟩
def dgt (c:UInt8):Nat:=c.toNat - 48
def msc:Bool→List UInt8→List Nat×Nat×List UInt8
 |_,[]=>([],0,[])
 |p,c::t=>if isD c=true then (dgt c::(msc p t).1,(msc p t).2.1+(if p then 1 else 0),(msc p t).2.2) else if c=46∧p=false then msc true t else ([],0,c::t)
theorem qeR (p:Bool) (c:UInt8) (t:List UInt8) (h:isD c=true):msc p (c::t)=(dgt c::(msc p t).1,(msc p t).2.1+(if p then 1 else 0),(msc p t).2.2):=by rw[msc,if_pos h]
theorem qgd (t:List UInt8):msc false (46::t)=msc true t:=by
 rw[msc,if_neg (by decide),if_pos ⟨rfl,rfl⟩]
theorem qes (p:Bool) (c:UInt8) (t:List UInt8) (h:isD c=false) (h2: ¬(c=46∧p=false)):msc p (c::t)=([],0,c::t):=by
 rw[msc,if_neg (by rw[h];decide),if_neg h2]
theorem qpH (t:List UInt8):msc true t=((t.take (qaz t)).map dgt,qaz t,t.drop (qaz t)):=by
 induction t with
 |nil=>rfl
 |cons c t ih=>
  by_cases h:isD c=true
  ·rw[qeR _ _ _ h,ih,qbX,if_pos h];rfl
  ·rw[qes _ _ _ (by simpa using h) (fun e=>by cases e.2),qbX,if_neg h];rfl
theorem qhI (l:List UInt8):msc false l=match l.drop (qaz l)with
 | []=>((l.take (qaz l)).map dgt,0,[])
 |c::t=>if c=46 then ((l.take (qaz l)).map dgt++(t.take (qaz t)).map dgt,qaz t,t.drop (qaz t)) else ((l.take (qaz l)).map dgt,0,c::t):=by
 induction l with
 |nil=>rfl
 |cons c t ih=>
  by_cases h:isD c=true
  ·rw[qeR _ _ _ h,ih,qbX,if_pos h,List.drop_succ_cons,List.take_succ_cons]
   cases t.drop (qaz t)with
   |nil=>rfl
   |cons x u=>
    simp only
    by_cases hx:x=46
    ·rw[if_pos hx,if_pos hx];rfl
    ·rw[if_neg hx,if_neg hx];rfl
  ·rw[qbX,if_neg h,List.drop_zero,List.take_zero];simp only
   by_cases hx:c=46
   ·subst hx;rw[if_pos rfl,qgd,qpH];rfl
   ·rw[if_neg hx,qes _ _ _ (by simpa using h) (fun e=>hx e.1)];rfl
theorem qmR (l:List UInt8):dn (l.map dgt)=qas l:=by
 unfold dn qas;rw[List.foldl_map];rfl
theorem qms (l:List UInt8):qaQ (l.take (qaz l)):=fun c hc=>by
 exact(qaq c).1 (qcC l c hc)
theorem qrQ (l:List UInt8):(msc false l).1.length=(qfh l).1∧(msc false l).2.2=(qfh l).2:=by
 have h1: ∀t:List UInt8,(t.take (qaz t)).length=qaz t:=fun t=>List.length_take_of_le (qbt t)
 rw[qhI];unfold qfh;simp only
 cases l.drop (qaz l)with
 |nil=>exact⟨by simp only[List.length_map];exact h1 l,rfl⟩
 |cons c t=>
  simp only
  by_cases hx:c=46
  ·rw[if_pos hx,if_pos hx];exact⟨by simp only[List.length_append,List.length_map];rw[h1,h1],rfl⟩
  ·rw[if_neg hx,if_neg hx];exact⟨by simp only[List.length_map];exact h1 l,rfl⟩
theorem qiW (p:Bool) (l:List UInt8): ∀x∈(msc p l).1,x≤9:=by
 induction l generalizing p with
 |nil=>intro x hx;cases hx
 |cons c t ih=>
  by_cases h:isD c=true
  ·rw[qeR _ _ _ h];intro x hx;rcases List.mem_cons.1 hx with rfl|hx
   ·have:=(qaq c).1 h;unfold dgt;omega
   ·exact ih p x hx
  ·by_cases h2:c=46∧p=false
   ·obtain⟨rfl,rfl⟩:=h2;rw[qgd];exact ih true
   ·rw[qes _ _ _ (by simpa using h) h2];intro x hx;cases hx
theorem quI (p:Bool) (l:List UInt8):(msc p l).1.length≤l.length∧(msc p l).2.1≤l.length∧(msc p l).2.2.length≤l.length:=by
 induction l generalizing p with
 |nil=>exact⟨Nat.le_refl _,Nat.le_refl _,Nat.le_refl _⟩
 |cons c t ih=>
  by_cases h:isD c=true
  ·obtain⟨i1,i2,i3⟩:=ih p;rw[qeR _ _ _ h];simp only[List.length_cons];refine⟨by omega,?_,?_⟩
   ·show(msc p t).2.1+(if p then 1 else 0)≤_
    split<;>omega
   ·show(msc p t).2.2.length≤_;omega
  ·by_cases h2:c=46∧p=false
   ·obtain⟨rfl,rfl⟩:=h2;obtain⟨i1,i2,i3⟩:=ih true;rw[qgd,List.length_cons];exact⟨by omega,by omega,by omega⟩
   ·rw[qes _ _ _ (by simpa using h) h2];exact⟨Nat.zero_le _,Nat.zero_le _,Nat.le_refl _⟩
theorem qhK (W:List UInt8) (h:qaQ W) (E:Int):xpt (qby W) E=E:=by
 have hd: ∀(T:List UInt8),qaQ T→ ∀m:MS,(T.foldl qaC m).dot=m.dot:=fun T hT m=>(qiD T hT m).1
 unfold xpt;have:(qby W).dot=false:=hd W h ms0;rw[this,if_neg (by decide)];omega
theorem qrS (l:List UInt8) (E:Int):dn (msc false l).1=mvF (l.take (l.length - (msc false l).2.2.length))∧xpt (qby (l.take (l.length - (msc false l).2.2.length))) E=E - ((msc false l).2.1:Nat):=by
 have hl:l=l.take (qaz l)++l.drop (qaz l):=(List.take_append_drop _ _).symm;have hW:=qms l;have hlen:(l.take (qaz l)).length=qaz l:=List.length_take_of_le (qbt l);rw[qhI]
 cases hr:l.drop (qaz l)with
 |nil=>
  have e:l.take (l.length - ([]:List UInt8).length)=l.take (qaz l):=by
   rw[hr,List.append_nil] at hl;rw[List.length_nil,Nat.sub_zero,List.take_length];exact hl
  simp only;rw[e,qmR];refine⟨?_,by rw[qhK _ hW];omega⟩;unfold mvF;rw[qdv _ hW,Nat.zero_mul,Nat.zero_add]
 |cons c t=>
  simp only;rw[hr] at hl
  have hll:l.length=qaz l+(t.length+1):=by
   have:=congrArg List.length hl;rw[List.length_append,hlen,List.length_cons] at this;exact this
  by_cases hx:c=46
  ·subst hx;rw[if_pos rfl];have hT:=qms t;have htl:(t.take (qaz t)).length=qaz t:=List.length_take_of_le (qbt t);have hdl:(t.drop (qaz t)).length=t.length - qaz t:=List.length_drop;have hdt:=qbt t
   have e:l.take (l.length - (t.drop (qaz t)).length)=l.take (qaz l)++46::t.take (qaz t):=by
    rw[hdl,show l.length - (t.length - qaz t)=qaz l+(qaz t+1) by omega];rw[List.take_add,hr,List.take_succ_cons]
   simp only;rw[e,qr0 _ _ hW hT,qsF _ _ hT,←List.map_append,qmR,htl];exact⟨rfl,rfl⟩
  ·rw[if_neg hx]
   have e:l.take (l.length - (c::t).length)=l.take (qaz l):=by
    rw[hll,List.length_cons,Nat.add_sub_cancel]
   simp only;rw[e,qmR];refine⟨?_,by rw[qhK _ hW];omega⟩;unfold mvF;rw[qdv _ hW,Nat.zero_mul,Nat.zero_add]
end Go.Proofs.YtdeimnnpcfncpaaGreatDoor
