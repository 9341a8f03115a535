/- Parts of the proof: D8. -/
import Derived.Test.YtdeimnnpcfncpaaGreatDoorCY11
set_option linter.unusedVariables false
set_option linter.unusedSimpArgs false
set_option maxRecDepth 100000
set_option maxHeartbeats 64000000
namespace Go.Proofs.YtdeimnnpcfncpaaGreatDoor
open Go Go.RowKit
def Sgn (s:ByteArray) (a:Nat) (ng:Bool):Prop:=(a=0∧ng=false∧bt s 0≠43∧bt s 0≠45)∨(a=1∧((ng=false∧bt s 0=43)∨(ng=true∧bt s 0=45)))
def qaG (m:MS) (E:Int):Int:=if m.mant=0 then 0 else (if m.dot then m.dp else (m.nd:Int))+E - (min m.nd 19:Nat)
def qiq (s:ByteArray) (ng:Bool) (m:MS) (E:Int) (w:World) (e:Ending) (w':World):Prop:=e= .returned (.tuple #[.int .u64 (m.mant:Int),.int .i64 (qaG m E),.bool ng,.bool m.trunc,.bool false,.int .i64 s.size,.bool true])∧w=w'
theorem qhJ {fn:Func} {t u v x y z q:Tmp} (h:fn.results=#[.tmp t,.tmp u,.tmp v,.tmp x,.tmp y,.tmp z,.tmp q]) (tmps:Array Value) (P:Program) (w:World):
 (results fn tmps).run P w= .ok (.tuple #[tmps.getD t undef,tmps.getD u undef,tmps.getD v undef,tmps.getD x undef,tmps.getD y undef,tmps.getD z undef,tmps.getD q undef]) w:=by
 simp[results,h]
theorem qbR {s:ByteArray} {a e:Nat} (H:qh6 s a e) (i:Nat) (hai:a≤i) (hie:i≤e):(mat s a i).nd≤2000∧(mat s a i).mant<10000000000000000000∧((mat s a i).nd<19→(mat s a i).mant<1000000000000000000)∧ -2000≤(mat s a i).dp∧(mat s a i).dp≤2000:=by
 obtain⟨k,rfl⟩: ∃k,i=a+k:=⟨i - a,by omega⟩;have:=qje H k hie;have h1:=H.sz;have h2:=H.le;obtain⟨a1,a2,a3,a4⟩:=this;refine⟨by omega,Nat.lt_of_lt_of_le a2 (Nat.pow_le_pow_right (by decide) (Nat.min_le_right _ _)),fun g=>?_,by omega,by omega⟩;exact Nat.lt_of_lt_of_le a2 ((Nat.pow_le_pow_right (by decide) (by omega):10^min (mat s a (a+k)).nd 19≤10^18))
theorem qfR (seen:Bool) (nd mant:Nat) (dp:Int) (tr:Bool):qa0 ⟨false,seen,nd,mant,dp,tr⟩ 46=⟨true,seen,nd,mant,nd,tr⟩:=rfl
theorem qcP (dot seen:Bool) (nd mant:Nat) (dp:Int) (tr:Bool) (h:nd=0):qa0 ⟨dot,seen,nd,mant,dp,tr⟩ 48=⟨dot,true,nd,mant,dp - 1,tr⟩:=by subst h;rfl
theorem qd2 (dot seen:Bool) (nd mant:Nat) (dp:Int) (tr:Bool) (c:UInt8) (h1:c≠46) (h2: ¬(c=48∧nd=0)) (h3:nd<19):qa0 ⟨dot,seen,nd,mant,dp,tr⟩ c=⟨dot,true,nd+1,mant*10+(c.toNat - 48),dp,tr⟩:=by
 unfold qa0;rw[if_neg h1,if_neg h2,if_pos h3]
theorem qc7 (dot seen:Bool) (nd mant:Nat) (dp:Int) (tr:Bool) (c:UInt8) (h1:c≠46) (h3:19≤nd):qa0 ⟨dot,seen,nd,mant,dp,tr⟩ c=⟨dot,true,nd+1,mant,dp,tr||(c !=48)⟩:=by
 unfold qa0;rw[if_neg h1,if_neg (fun g=>by have:nd=0:=g.2;omega),if_neg (fun g=>by have:nd<19:=g;omega)]
theorem qkK (s:ByteArray) (e:Nat) (E:Int) (T:Tail s e E): -100000≤E∧E≤100000:=by
 cases T with
 |none h=>omega
 |exp b ne hc hb hq h5 hd=>
  have:=qkQ s (e+1+b) hd (s.size - (e+1+b)) (by omega);rw[show e+1+b+(s.size - (e+1+b))=s.size by omega] at this;have h2:10^(s.size - (e+1+b))≤10^5:=Nat.pow_le_pow_right (by decide) (by omega);cases ne<;>simp<;>omega
theorem qlc (x:Int) (h:x=101∨x=69) (w:World):Calls Tryz.prog 286 #[.int .u8 x] w fun e w'=>e= .returned (.int .u8 101)∧w=w':=by
 rcases h with rfl|rfl
 ·exact qgN 101 w
 ·exact qgN 69 w
theorem qiZ (s:ByteArray) (a e:Nat) (E:Int) (H:qh6 s a e) (T:Tail s e E) (h:a+2<s.size):(bt s a≠48)∨(bt s (a+1)≠88∧bt s (a+1)≠120):=by
 by_cases h1:a+1<e
 ·right;rcases H.ch (a+1) (by omega) h1 with g|g
  ·have:=(qaB _).1 g;exact⟨fun e=>by rw[e] at this;exact absurd this (by decide),fun e=>by rw[e] at this;exact absurd this (by decide)⟩
  ·rw[g.1];exact⟨by decide,by decide⟩
 ·have:=H.lt;obtain rfl:e=a+1:=by omega
  cases T with
  |none h=>omega
  |exp b ne hc=>right;rcases hc with g|g<;>rw[g]<;>exact⟨by decide,by decide⟩
theorem qjs (s:ByteArray) (a e:Nat) (ng:Bool) (E:Int) (H:qh6 s a e) (S:Sgn s a ng) (T:Tail s e E) (w:World):Calls Tryz.prog 274 #[.string s] w (qiq s ng (mat s a e) E w):=by
 have hsz:=H.sz;have hlt:=H.lt;have hle:=H.le;have h0:0<s.size:=by omega
 have ha:a≤1:=by rcases S with h|h<;>omega
 have hx:=Lh (qiZ s a e E H T);obtain⟨M,hM⟩: ∃M,Hid (mat s a e=M):=⟨_,Lh rfl⟩;rw[hM.out];replace H:=Lh H;replace S:=Lh S;replace T:=Lh T;have t0:decide ((s.size:Int)≤0)=false:=dF (by omega);have t1:decide (s.size≤0)=false:=dF (by omega);have tE: ¬s=ByteArray.empty:=fun e=>by rw[e] at h0;exact absurd h0 (by decide)
 go_enter Tryz.func274,Tryz.ntmps274;go_wp2_with fail;go_step3;go_upto_block 0 with (fail)
 go_cut [4,7] (fun s4 s7 wx=>s4= .bool ng∧s7= .int .i64 (a:Int)∧w=wx)
 case first=>as_aux_lemma=>
  --<
  obtain⟨c,hc,hB⟩:=qdd s 0 h0;rcases S.out with ⟨rfl,rfl,g1,g2⟩|⟨rfl,⟨rfl,g⟩|⟨rfl,g⟩⟩
  ·rw[hc.out] at g1 g2;have s1:=qbS c 43 43 rfl g1;have s2:=qbS c 45 45 rfl g2;clear hx H S T hM hc g1 g2;go_wp2_with fail;go_meet;exact⟨rfl,rfl,rfl⟩
  ·obtain rfl:c=43:=hc.out.symm.trans g;rw[show(((43:UInt8).toNat:Int))=43 from rfl] at hB;clear hx H S T hM hc g;go_wp2_with fail;go_meet;exact⟨rfl,rfl,rfl⟩
  ·obtain rfl:c=45:=hc.out.symm.trans g;rw[show(((45:UInt8).toNat:Int))=45 from rfl] at hB;clear hx H S T hM hc g;go_wp2_with fail;go_meet;exact⟨rfl,rfl,rfl⟩
  -->
 case rest=>as_aux_lemma=>
  obtain⟨rfl,rfl,rfl⟩:=hcut;clear S;go_upto_region 12 with (fail)
  go_cut [54] (fun s54 wx=>s54= .bool false∧w=wx)
  case first=>as_aux_lemma=>
   --<
   by_cases g0:a+2<s.size
   ·have u0:decide ((a:Int)+2<(s.size:Int))=true:=dT (by omega);have ha1:a<s.size:=by omega
    have ha2:a+1<s.size:=by omega
    obtain⟨c,hc,hB⟩:=qdd s a ha1
    by_cases g1:c=48
    ·obtain⟨d,hd,hB2⟩:=qdd s (a+1) ha2;have hx':=(hx.out g0).resolve_left (fun g=>g (hc.out.trans g1));rw[hd.out] at hx';have s2:=qs8 d hx';subst g1;rw[show(((48:UInt8).toNat:Int))=48 from rfl] at hB;clear hx' hx hc hd H T hM;go_wp2_with fail;refine(qgN d _).mono ?_;rintro x w1 ⟨rfl,rfl⟩;go_wp2_with fail;go_meet;exact⟨rfl,rfl⟩
    ·have s1:=qbS c 48 48 rfl g1;clear hx hc H T hM g1;go_wp2_with fail;go_meet;exact⟨rfl,rfl⟩
   ·have u0:decide ((a:Int)+2<(s.size:Int))=false:=dF (by omega);clear hx H T hM;go_wp2_with fail;go_meet;exact⟨rfl,rfl⟩
   -->
  case rest=>as_aux_lemma=>
   clear hx;obtain⟨rfl,rfl⟩:=hcut;go_wp2_with fail;go_step3;go_upto_block 1 with (fail)
   go_cut [2,5,7,9,13,14,15,16,17] (fun s2 s5 s7 s9 s13 s14 s15 s16 s17 wx=>s2= .int .u64 (M.mant:Int)∧s5= .bool M.trunc∧s7= .int .i64 (e:Int)∧s9= .bool false∧s13= .bool M.dot∧s14= .bool true∧s15= .int .i64 (M.nd:Int)∧s16= .int .i64 ((min M.nd 19:Nat):Int)∧s17= .int .i64 M.dp∧w=wx)
   case first=>as_aux_lemma=>
    --<
    go_wp2_with fail;go_loop [2,5,7,9,13,14,15,16,17] (fun s2 s5 s7 s9 s13 s14 s15 s16 s17=> ∃(i:Nat) (m:MS),a≤i∧i≤e∧Hid (mat s a i=m)∧s2= .int .u64 (m.mant:Int)∧s5= .bool m.trunc∧s7= .int .i64 (i:Int)∧s9= .bool false∧s13= .bool m.dot∧s14= .bool m.seen∧s15= .int .i64 (m.nd:Int)∧s16= .int .i64 ((min m.nd 19:Nat):Int)∧s17= .int .i64 m.dp) (fun _ _ s7 _ _ _ _ _ _=>s.size - (intOf s7).toNat)
    case atStart=>exact⟨a,ms0,Nat.le_refl _,by omega,qhX s a,rfl,rfl,rfl,rfl,rfl,rfl,rfl,rfl,rfl⟩
    case round=>as_aux_lemma=>
     obtain⟨i,m,hai,hie,hm,rfl,rfl,rfl,rfl,rfl,rfl,rfl,rfl,rfl⟩:=hrel;obtain⟨b1,b2,b3,b4,b5⟩:=qbR H.out i hai hie;rw[hm.out] at b1 b2 b3 b4 b5
     by_cases hlt2:i<e
     ·have u1:decide ((i:Int)<(s.size:Int))=true:=dT (by omega);have u1':decide (i<s.size)=true:=dT (by omega);have his:i<s.size:=by omega
      obtain⟨c,hc,hB⟩:=qdd s i his;have hst:=qdB s a i hai his;rw[hm.out,hc.out] at hst;have hch:=H.out.ch i hai hlt2;rw[hm.out,hc.out] at hch;obtain⟨dot,seen,nd,mant,dp,tr⟩:=m;dsimp only at*
      by_cases g:c=46
      ·subst g;obtain rfl:dot=false:=by rcases hch with h|h;exact absurd h (by decide);exact h.2
       rw[qfR] at hst;replace hst:=Lh hst;rw[show(((46:UInt8).toNat:Int))=46 from rfl] at hB;clear hch hc hm H T hM b3;go_wp2_with fail;go_round
       case rel=>exact⟨i+1,_,by omega,by omega,hst.out,rfl,rfl,by go_num,rfl,rfl,rfl,rfl,rfl,rfl⟩
       case measure=>simp[intOf];omega
      ·have hd:=(qaB c).1 (by rcases hch with h|h;exact h;exact absurd h.1 g);have v1:=qbS c 46 46 rfl g;have v2:=qbS c 95 95 rfl (fun e=>by subst e;exact absurd hd (by decide));have v3:decide ((48:Int)≤(c.toNat:Int))=true:=dT (by omega);have v4:decide ((c.toNat:Int)≤57)=true:=dT (by omega);have v3':decide (48≤c.toNat)=true:=dT (by omega);have v4':decide (c.toNat≤57)=true:=dT (by omega);have d1:(48:Int)≤c.toNat:=by omega
       have d2:(c.toNat:Int)≤57:=by omega
       by_cases h0:nd=0∧c=48
       ·obtain⟨h0,rfl⟩:=h0;have v5:((nd:Int)==0)=true:=by simp[h0]
        rw[qcP _ _ _ _ _ _ h0] at hst;replace hst:=Lh hst;rw[show(((48:UInt8).toNat:Int))=48 from rfl] at hB;clear hch hc hm H T hM b3 h0 g hd v1 v2 v3 v4 v3' v4' d1 d2;go_wp2_with fail;go_round
        case rel=>exact⟨i+1,_,by omega,by omega,hst.out,rfl,rfl,by go_num,rfl,rfl,rfl,rfl,rfl,rfl⟩
        case measure=>simp[intOf];omega
       ·by_cases h19:nd<19
        ·rw[qd2 _ _ _ _ _ _ _ g (fun x=>h0 ⟨x.2,x.1⟩) h19] at hst;replace hst:=Lh hst;rw[show min nd 19=nd by omega];have u9:decide ((nd:Int)<19)=true:=dT (by omega);have u9':decide (nd<19)=true:=dT (by omega);have b6:=b3 h19;have b7:(mant:Int)<1000000000000000000:=by omega
         have b8:(nd:Int)<19:=by omega
         by_cases h48:c=48
         ·have v6:((nd:Int)==0)=false:=by simp;exact fun x=>h0 ⟨x,h48⟩
          subst h48;rw[show(((48:UInt8).toNat:Int))=48 from rfl] at hB;clear hch hc hm H T hM b3 h0 g hd v1 v2 v3 v4 v3' v4' d1 d2;go_wp2_with fail;go_round
          case rel=>exact⟨i+1,_,by omega,by omega,hst.out,by go_num,rfl,by go_num,rfl,rfl,rfl,by go_num,by rw[show min (nd+1) 19=nd+1 by omega];go_num,rfl⟩
          case measure=>simp[intOf];omega
         ·have v5:=qbS c 48 48 rfl h48;obtain⟨x,hx⟩: ∃x,x=c.toNat:=⟨_,rfl⟩;rw[←hx] at hst v1 v2 v3 v4 v3' v4' v5 d1 d2 hB;clear hch hc hm H T hM b3 h0 g hd h48 hx;go_wp2_with fail;go_round
          case rel=>exact⟨i+1,_,by omega,by omega,hst.out,by go_num,rfl,by go_num,rfl,rfl,rfl,by go_num,by rw[show min (nd+1) 19=nd+1 by omega];go_num,rfl⟩
          case measure=>simp[intOf];omega
        ·rw[qc7 _ _ _ _ _ _ _ g (by omega)] at hst;rw[show((min nd 19:Nat):Int)=19 by omega];have u8:((nd:Int)==0)=false:=by simp;omega
         by_cases h48:c=48
         ·subst h48;rw[show((48:UInt8) !=48)=false from rfl,Bool.or_false] at hst;replace hst:=Lh hst;rw[show(((48:UInt8).toNat:Int))=48 from rfl] at hB;clear hch hc hm H T hM b3 h0 g hd v1 v2 v3 v4 v3' v4' d1 d2;go_wp2_with fail;go_round
          case rel=>exact⟨i+1,_,by omega,by omega,hst.out,rfl,rfl,by go_num,rfl,rfl,rfl,by go_num,by rw[show((min (nd+1) 19:Nat):Int)=19 by omega],rfl⟩
          case measure=>simp[intOf];omega
         ·have v5:=qbS c 48 48 rfl h48;have v6:((c.toNat:Int) !=48)=true:=by rw[bne,v5];rfl
          rw[show(c !=48)=true by simp[h48],Bool.or_true] at hst;replace hst:=Lh hst;clear hch hc hm H T hM b3 h0 g hd h48;go_wp2_with fail;go_round
          case rel=>exact⟨i+1,_,by omega,by omega,hst.out,rfl,rfl,by go_num,rfl,rfl,rfl,by go_num,by rw[show((min (nd+1) 19:Nat):Int)=19 by omega],rfl⟩
          case measure=>simp[intOf];omega
     ·obtain rfl:i=e:=by omega
      obtain rfl:m=M:=hm.out.symm.trans hM.out;have hseen:m.seen=true:=by rw[←hM.out];exact H.out.seen
      rw[hseen]
      by_cases he:i=s.size
      ·have u1:decide ((i:Int)<(s.size:Int))=false:=dF (by omega);have u1':decide (i<s.size)=false:=dF (by omega);clear hm H T hM hseen he;go_wp2_with fail;go_meet;exact⟨rfl,rfl,rfl,rfl,rfl,rfl,rfl,rfl,rfl,rfl⟩
      ·have u1:decide ((i:Int)<(s.size:Int))=true:=dT (by omega);have u1':decide (i<s.size)=true:=dT (by omega);have his:i<s.size:=by omega
       obtain⟨c,hc,hB⟩:=qdd s i his
       have hcc:(c.toNat:Int)=101∨(c.toNat:Int)=69:=by
        cases T.out with
        |none h=>exact absurd h he
        |exp b ne h=>rw[hc.out] at h;rcases h with rfl|rfl;exact .inl rfl;exact .inr rfl
       clear hm H T hM hseen he hc;rcases hcc with h|h
       ·rw[h] at hB;clear h;go_wp2_with fail;go_meet;exact⟨rfl,rfl,rfl,rfl,rfl,rfl,rfl,rfl,rfl,rfl⟩
       ·rw[h] at hB;clear h;go_wp2_with fail;go_meet;exact⟨rfl,rfl,rfl,rfl,rfl,rfl,rfl,rfl,rfl,rfl⟩
    -->
   case rest=>as_aux_lemma=>
    obtain⟨rfl,rfl,rfl,rfl,rfl,rfl,rfl,rfl,rfl,rfl⟩:=hcut;obtain⟨b1,b2,b3,b4,b5⟩:=qbR H.out e (by omega) (Nat.le_refl _);rw[hM.out] at b1 b2 b3 b4 b5;clear H hM b3;obtain⟨dot,seen,nd,mant,dp,tr⟩:=M;dsimp only at*;obtain⟨D,hD⟩: ∃D:Int,Hid (D=if dot then dp else (nd:Int)):=⟨_,Lh rfl⟩;have d1: -2000≤D∧D≤2000:=by rw[hD.out];cases dot<;>simp<;>omega
    obtain⟨d1,d2⟩:=d1;go_upto_if 142 with (fail)
    go_cut [17] (fun s17 wx=>s17= .int .i64 D∧w=wx)
    case first=>as_aux_lemma=>
     --<
     cases dot
     ·obtain rfl:=hD.out;clear T hD;go_wp2_with fail;go_meet;exact⟨rfl,rfl⟩
     ·obtain rfl:=hD.out;clear T hD;go_wp2_with fail;go_meet;exact⟨rfl,rfl⟩
     -->
    case rest=>as_aux_lemma=>
     obtain⟨rfl,rfl⟩:=hcut;have e1: -100000≤E∧E≤100000:=qkK s e E T.out;obtain⟨e1,e2⟩:=e1;obtain⟨be,hbe⟩: ∃be:Bool,Hid (be=decide (e<s.size)):=⟨_,Lh rfl⟩;go_upto_region 57 with (fail)
     go_cut [161] (fun s161 wx=>s161= .bool be∧w=wx)
     case first=>as_aux_lemma=>
      --<
      by_cases he:e<s.size
      ·have u1:decide ((e:Int)<(s.size:Int))=true:=dT (by omega);have u1':decide (e<s.size)=true:=dT (by omega);obtain⟨c,hc,hB⟩:=qdd s e he;obtain rfl:be=true:=by rw[hbe.out];exact u1'
       have hcc:(c.toNat:Int)=101∨(c.toNat:Int)=69:=by
        cases T.out with
        |none h=>omega
        |exp b ne h=>rw[hc.out] at h;rcases h with rfl|rfl;exact .inl rfl;exact .inr rfl
       have hlo:=Lh (qlc (c.toNat:Int) hcc w);clear T hbe hc hD hcc;go_wp2_with fail;refine hlo.out.mono ?_;rintro x w1 ⟨rfl,rfl⟩;go_wp2_with fail;go_meet;exact⟨rfl,rfl⟩
      ·have u1:decide ((e:Int)<(s.size:Int))=false:=dF (by omega);have u1':decide (e<s.size)=false:=dF (by omega);obtain rfl:be=false:=by rw[hbe.out];exact u1'
       clear T hbe hD;go_wp2_with fail;go_meet;exact⟨rfl,rfl⟩
      -->
     case rest=>as_aux_lemma=>
     obtain⟨rfl,rfl⟩:=hcut;go_upto_if 161 with (fail)
     go_cut [3,7,9,17,19,20] (fun s3 s7 s9 s17 _ _ wx=>s3= .int .i64 0∧s7= .int .i64 (s.size:Int)∧s9= .bool false∧s17= .int .i64 (D+E)∧w=wx)
     case first=>as_aux_lemma=>
      cases be
      ·have he: ¬e<s.size:=of_decide_eq_false hbe.out.symm;have T':=T.out;clear T hbe hD
       cases T' with
       |none h=>
        clear he;go_wp2_with fail;go_meet;exact⟨rfl,by rw[h],rfl,by rw[Int.add_zero],rfl⟩
       |exp b ne hc hb hq h5 hd=>omega
      ·have he:e<s.size:=of_decide_eq_true hbe.out.symm;have T':=T.out;clear T hbe hD
       cases T' with
       |none h=>omega
       |exp b ne hc hb hq h5 hd=>
        clear hc;obtain⟨q,hqq⟩: ∃q,Hid (e+1+b=q):=⟨_,Lh rfl⟩;rw[hqq.out] at hq h5 hd e1 e2⊢;obtain⟨E2,hE2⟩: ∃E2,Hid ((if ne=true then -(est s q s.size:Int) else (est s q s.size:Int))=E2):=⟨_,Lh rfl⟩;rw[hE2.out] at e1 e2⊢;have q0:e+1≤q:=by rw[←hqq.out];omega
        obtain⟨sg,hsg⟩: ∃sg:Int,Hid ((ne=false∧sg=1)∨(ne=true∧sg= -1)):=by cases ne;exact⟨1,.inl ⟨rfl,rfl⟩⟩;exact⟨-1,.inr ⟨rfl,rfl⟩⟩
        replace hd:=Lh hd;have he1:e+1<s.size:=by omega
        have u1:decide ((s.size:Int)≤(e:Int)+1)=false:=dF (by omega);replace h5:=Lh h5;go_upto_block 4 with (fail)
        go_cut [7,19] (fun s7 s19 wx=>s7= .int .i64 (q:Int)∧s19= .int .i64 sg∧w=wx)
        case first=>as_aux_lemma=>
         obtain⟨c,hc,hB⟩:=qdd s (e+1) he1;rcases hb with ⟨rfl,rfl,g1,g2⟩|⟨rfl,⟨rfl,g⟩|⟨rfl,g⟩⟩
         ·rw[hc.out] at g1 g2;obtain rfl:sg=1:=by rcases hsg.out with h|h;exact h.2;exact absurd h.1 (by decide)
          have s1:=qbS c 43 43 rfl g1;have s2:=qbS c 45 45 rfl g2;have hq':=hqq.out;clear hqq hsg hd hc g1 g2 hE2 h5;subst hq';go_wp2_with fail;go_meet;exact⟨by go_num,rfl,rfl⟩
         ·obtain rfl:c=43:=hc.out.symm.trans g;obtain rfl:sg=1:=by rcases hsg.out with h|h;exact h.2;exact absurd h.1 (by decide)
          rw[show(((43:UInt8).toNat:Int))=43 from rfl] at hB;have hq':=hqq.out;clear hqq hsg hd hc g hE2 h5;subst hq';go_wp2_with fail;go_meet;exact⟨by go_num,rfl,rfl⟩
         ·obtain rfl:c=45:=hc.out.symm.trans g;obtain rfl:sg= -1:=by rcases hsg.out with h|h;exact absurd h.1 (by decide);exact h.2
          rw[show(((45:UInt8).toNat:Int))=45 from rfl] at hB;have hq':=hqq.out;clear hqq hsg hd hc g hE2 h5;subst hq';go_wp2_with fail;go_meet;exact⟨by go_num,rfl,rfl⟩
        case rest=>as_aux_lemma=>
         obtain⟨rfl,rfl,rfl⟩:=hcut;clear hb u1;obtain⟨c,hc,hB⟩:=qdd s q hq;have hcd:=(qaB _).1 (hd.out q (Nat.le_refl _) hq);rw[hc.out] at hcd;have v1:decide ((s.size:Int)≤(q:Int))=false:=dF (by omega);have v1':decide (s.size≤q)=false:=dF (by omega);have v2:decide ((c.toNat:Int)<48)=false:=dF (by omega);have v2':decide (c.toNat<48)=false:=dF (by omega);have v3:decide ((57:Int)<(c.toNat:Int))=false:=dF (by omega);have v3':decide (57<c.toNat)=false:=dF (by omega);clear hc hcd;go_wp2_with fail;go_loop [7,9,20] (fun s7 s9 s20=> ∃k:Nat,q≤k∧k≤s.size∧s7= .int .i64 (k:Int)∧s9= .bool false∧s20= .int .i64 (est s q k:Int)) (fun s7 _ _=>s.size - (intOf s7).toNat)
         case atStart=>exact⟨q,Nat.le_refl _,by omega,rfl,rfl,by rw[qjb];rfl⟩
         case round=>as_aux_lemma=>
          obtain⟨k,hqk,hks,rfl,rfl,rfl⟩:=hrel;clear hB v1 v1' v2 v2' v3 v3'
          by_cases hlt3:k<s.size
          ·have u1:decide ((k:Int)<(s.size:Int))=true:=dT (by omega);have u1':decide (k<s.size)=true:=dT (by omega);obtain⟨d,hdd,hB⟩:=qdd s k hlt3;have hcd:=(qaB _).1 (hd.out k hqk hlt3);rw[hdd.out] at hcd;have hst:=qeR s q k hqk hlt3;rw[hdd.out] at hst;have hbd:=qkQ s q hd.out (k - q) (by omega);rw[show q+(k - q)=k by omega] at hbd;have h55:=h5.out;have hbd2:est s q k<10^4:=Nat.lt_of_lt_of_le hbd (Nat.pow_le_pow_right (by decide) (by omega));obtain⟨E1,hE1⟩: ∃E1,E1=est s q k:=⟨_,rfl⟩;rw[←hE1] at hst hbd2⊢;replace hst:=Lh hst;have hbd3:(E1:Int)<10000:=by omega
           have w1:decide ((E1:Int)<10000)=true:=dT (by omega);have w1':decide (E1<10000)=true:=dT (by omega);obtain⟨x,hx⟩: ∃x,x=d.toNat:=⟨_,rfl⟩;rw[←hx] at hcd hB hst;have v3:decide ((48:Int)≤(x:Int))=true:=dT (by omega);have v4:decide ((x:Int)≤57)=true:=dT (by omega);have v3':decide (48≤x)=true:=dT (by omega);have v4':decide (x≤57)=true:=dT (by omega);have v5:((x:Int)==95)=false:=by simp;omega
           have d1:(48:Int)≤x:=by omega
           have d2:(x:Int)≤57:=by omega
           clear hx hdd hbd hE1 hbd2 hcd hE2 e1 e2;go_wp2_with fail;go_round
           case rel=>exact⟨k+1,by omega,by omega,by go_num,rfl,by rw[hst.out];go_num⟩
           case measure=>simp[intOf];omega
          ·obtain rfl:k=s.size:=by omega
           have u1:decide ((s.size:Int)<(s.size:Int))=false:=dF (by omega);obtain⟨E1,hE1⟩: ∃E1,E1=est s q s.size:=⟨_,rfl⟩;have f:=hE2.out;rw[←hE1] at f⊢;replace hE1:=Lh hE1;rcases hsg.out with ⟨rfl,rfl⟩|⟨rfl,rfl⟩
           ·obtain rfl:(E1:Int)=E2:=f;clear hsg hd hE2 h5;go_wp2_with fail;go_meet;exact⟨rfl,rfl,rfl,by rw[hqq.out,←hE1.out];rfl,rfl⟩
           ·obtain rfl: -(E1:Int)=E2:=f;clear hsg hd hE2 h5;go_wp2_with fail;go_meet;exact⟨rfl,rfl,rfl,by rw[hqq.out,←hE1.out];rfl,rfl⟩
     case rest=>as_aux_lemma=>
      obtain⟨rfl,rfl,rfl,rfl,rfl⟩:=hcut;have hE:Hid (qaG ⟨dot,seen,nd,mant,dp,tr⟩ E=if mant=0 then 0 else D+E - (min nd 19:Nat)):=by show _=_;rw[hD.out];rfl
      clear T hD
      --<
      by_cases hm0:mant=0
      ·have hE':=hE.out;rw[if_pos hm0] at hE';have u1:((mant:Int) !=0)=false:=by simp[hm0]
       have hR:qiq s ng ⟨dot,seen,nd,mant,dp,tr⟩ E w (.returned (.tuple #[.int .u64 (mant:Int),.int .i64 0,.bool ng,.bool tr,.bool false,.int .i64 s.size,.bool true])) w:=⟨by rw[hE'],rfl⟩;replace hR:=Lh hR;clear hE hE' hm0;go_wp2_with fail;rw[Exit.noGoto_ret];refine bodyPost_ret (qhJ rfl _ _ _) rfl ?_;exact hR.out
      ·have hE':=hE.out;rw[if_neg hm0] at hE';have u1:((mant:Int) !=0)=true:=by simp[hm0]
       obtain⟨q,hq⟩: ∃q:Nat,q=min nd 19:=⟨_,rfl⟩;have q1:q≤19:=by omega
       rw[←hq] at hE'⊢;have hR:qiq s ng ⟨dot,seen,nd,mant,dp,tr⟩ E w (.returned (.tuple #[.int .u64 (mant:Int),.int .i64 (D+E - q),.bool ng,.bool tr,.bool false,.int .i64 s.size,.bool true])) w:=⟨by rw[hE'],rfl⟩;replace hR:=Lh hR;clear hE hE' hm0 hq;go_wp2_with fail;rw[Exit.noGoto_ret];refine bodyPost_ret (qhJ rfl _ _ _) rfl ?_;exact hR.out
      -->
end Go.Proofs.YtdeimnnpcfncpaaGreatDoor
