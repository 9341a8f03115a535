/- Parts of the proof: D6. -/
import Derived.Test.YtdeimnnpcfncpaaGreatDoorCY09
set_option linter.unusedVariables false
set_option linter.unusedSimpArgs false
set_option maxRecDepth 100000
set_option maxHeartbeats 64000000
namespace Go.Proofs.YtdeimnnpcfncpaaGreatDoor
open Go Go.RowKit
def qpG (F:Nat) (w:World) (x:Ending) (w':World):Prop:=(∃f ok,x= .returned (.tuple #[.float .f64 f,.bool ok])∧(ok=true→f=F))∧w=w'
theorem qcR (F f:Nat) (w:World):qpG F w (.returned (.tuple #[.float .f64 f,.bool false])) w:=⟨⟨f,false,rfl,fun h=>by cases h⟩,rfl⟩
theorem qdg (F:Nat) (w:World):qpG F w (.returned (.tuple #[.float .f64 F,.bool true])) w:=⟨⟨F,true,rfl,fun _=>rfl⟩,rfl⟩
theorem qqj (neg:Bool) (d:Nat) (p:Int) (h0:0<d) (hd:d<18446744073709551616) (hp0: -348≤p) (hp1:p≤347) (w:World) (hG:qeO w):
 Calls Tryz.prog 284 #[.int .u64 d,.int .i64 p,.bool neg] w (qpG (sgw neg+qbZ d (p+348).toNat) w):=by
 have c0:=hG.i0;obtain⟨b,off,cap,c1,_,c2⟩:=hG.pow;obtain⟨F,hF⟩: ∃F,F=sgw neg+qbZ d (p+348).toNat:=⟨_,rfl⟩;rw[←hF]
 by_cases g52:4503599627370496≤d
 ·have t1:((d:Int)/4503599627370496 !=0)=true:=by rw[bne_iff_ne];omega
  clear hF c2;go_enter Tryz.func284,Tryz.ntmps284;go_wp2_with fail;go_ret2;exact qcR _ _ _
 ·have t1:((d:Int)/4503599627370496 !=0)=false:=by rw[bne_eq_false_iff_eq];omega
  obtain⟨r0,r1,r2,r3,r4⟩:=qpe d h0 (by omega);have hnf:=qjp r0 r1;obtain⟨X,hX⟩: ∃X,X=sgw neg+r0:=⟨_,rfl⟩;have hXf:neg=false→floatOfInt .f64 (d:Int)=X:=fun e=>by rw[hX,e,r4];exact(Nat.zero_add r0).symm
  have hXt:neg=true→ ∀w:World,Sem.run Tryz.prog (Op.unary .neg (.float .f64 r0)) w= .ok (.float .f64 X) w:=fun e w=>by
   have h:Op.negFloat .f64 r0=X:=by rw[hX,e];exact hnf
   show Sem.run Tryz.prog (pure (Value.float .f64 (Op.negFloat .f64 r0))) w=_;rw[h];rfl
  clear hnf
  by_cases p0:p=0
  ·subst p0;have hFX:F=X:=by rw[hF,hX,show((0:Int)+348).toNat=348 by decide,←qrS r0 d r1 r2 h0 hd]
   clear hF hX r1 r2 r3 c2
   cases neg with
   |false=>
    have q1:=hXf rfl;clear hXf hXt r4;go_enter Tryz.func284,Tryz.ntmps284;go_wp2_with fail;go_ret2;rw[hFX];exact qdg _ _
   |true=>
    have q1:=hXt rfl;clear hXf hXt;go_enter Tryz.func284,Tryz.ntmps284;go_wp2_with fail;go_ret2;rw[hFX];exact qdg _ _
  ·have t2:(p==0)=false:=by rw[beq_eq_false_iff_ne];exact p0
   by_cases pp:0<p
   ·have t3:decide (0<p)=true:=dT pp
    by_cases p37:p≤37
    ·have t4:decide (p≤37)=true:=dT p37
     by_cases p22:22<p
     ·have t5:decide (22<p)=true:=dT p22;obtain⟨k,hk⟩: ∃k:Nat,p=(k:Int)+22:=⟨(p - 22).toNat,by omega⟩;subst hk;have hk1:k<23:=by omega
      have e1:(k:Int)+22 - 22=k:=by omega
      obtain⟨g1,g2,g3⟩:=qlo k hk1;obtain⟨x1,m1,m2⟩:=qhz neg false r0 (f10 k) d (10^k) r1 g2 r2 g1 r3 g3;rw[show sgw false+f10 k=f10 k from Nat.zero_add _,Bool.xor_false,←hX] at m1
      have hx1:x1<INF:=qmY (d*10^k) x1 (by
       have a1:(10:Nat)^k≤10^15:=Nat.pow_le_pow_right (by omega) (by omega);have a2:d*10^k≤4503599627370496*10^15:=Nat.mul_le_mul (by omega) a1;have a3:4503599627370496*10^15<2^102:=by decide
       omega) m2
      obtain⟨Y,hY⟩: ∃Y,Y=sgw neg+x1:=⟨_,rfl⟩;rw[←hY] at m1;have u1:=fun W:World=>run_float_arith (P:=Tryz.prog) W .mul 182 .f64 X (f10 k) Y m1
      have c3:=c2 k hk1;have c4:=c2 22 (by omega);obtain⟨b1,hb1⟩: ∃b,(FloatKind.f64.format.order Y 4831355200913801216==some .gt)=b:=⟨_,rfl⟩;obtain⟨b2,hb2⟩: ∃b,(FloatKind.f64.format.order Y 14054727237768577024==some .lt)=b:=⟨_,rfl⟩
      have u2:b1=false→b2=false→ ∀W:World,(binOp .mul 182 (.float .f64 Y) (.float .f64 (f10 22))).run Tryz.prog W= .ok (.float .f64 F) W:=by
       intro h1 h2 W;have hle:=qmG neg x1 hx1 (by rw[←hY,hb1,h1]) (by rw[←hY,hb2,h2]);obtain⟨v1,v2⟩:=qmP (d*10^k) x1 (Nat.mul_pos h0 (Nat.pow_pos (by omega))) m2 hle;have hi:((k:Int)+22+348).toNat=k+370:=by omega
       have:=qn3 neg x1 (d*10^k) 22 d (k+370) hx1 v2 v1 (by omega) h0 hd (by omega) (by unfold pQ;rw[if_pos (by omega)]) (by unfold pP;rw[if_pos (by omega),Nat.mul_assoc,←Nat.pow_add,show k+22=k+370 - 348 by omega]);rw[←hY,←hi,←hF] at this;exact run_float_arith W .mul 182 .f64 Y (f10 22) F this
      clear hF hX r1 r2 r3 c2 g1 g2 g3 m1 m2 hx1 hY;generalize f10 k=fk at*;generalize f10 22=f22 at*
      cases b1 with
      |true=>
       clear u2
       cases neg with
       |false=>
        have q1:=hXf rfl;clear hXf hXt r4;go_enter Tryz.func284,Tryz.ntmps284;go_wp2_with fail;go_ret2;exact qcR _ _ _
       |true=>
        have q1:=hXt rfl;clear hXf hXt;go_enter Tryz.func284,Tryz.ntmps284;go_wp2_with fail;go_ret2;exact qcR _ _ _
      |false=>
       cases b2 with
       |true=>
        clear u2
        cases neg with
        |false=>
         have q1:=hXf rfl;clear hXf hXt r4;go_enter Tryz.func284,Tryz.ntmps284;go_wp2_with fail;go_ret2;exact qcR _ _ _
        |true=>
         have q1:=hXt rfl;clear hXf hXt;go_enter Tryz.func284,Tryz.ntmps284;go_wp2_with fail;go_ret2;exact qcR _ _ _
       |false=>
        replace u2:=u2 rfl rfl
        cases neg with
        |false=>
         have q1:=hXf rfl;clear hXf hXt r4;go_enter Tryz.func284,Tryz.ntmps284;go_wp2_with fail;go_ret2;exact qdg _ _
        |true=>
         have q1:=hXt rfl;clear hXf hXt;go_enter Tryz.func284,Tryz.ntmps284;go_wp2_with fail;go_ret2;exact qdg _ _
     ·have t5:decide (22<p)=false:=dF p22;obtain⟨k,hk⟩: ∃k:Nat,p=(k:Int):=⟨p.toNat,by omega⟩;subst hk;have hk1:k<23:=by omega
      have c3:=c2 k hk1;obtain⟨b1,hb1⟩: ∃b,(FloatKind.f64.format.order X 4831355200913801216==some .gt)=b:=⟨_,rfl⟩;obtain⟨b2,hb2⟩: ∃b,(FloatKind.f64.format.order X 14054727237768577024==some .lt)=b:=⟨_,rfl⟩
      have u2: ∀W:World,(binOp .mul 182 (.float .f64 X) (.float .f64 (f10 k))).run Tryz.prog W= .ok (.float .f64 F) W:=by
       intro W;have hi:((k:Int)+348).toNat=k+348:=by omega
       have:=qn3 neg r0 d k d (k+348) r1 r3 r2 hk1 h0 hd (by omega) (by unfold pQ;rw[if_pos (by omega)]) (by unfold pP;rw[if_pos (by omega),show k+348 - 348=k by omega]);rw[←hX,←hi,←hF] at this;exact run_float_arith W .mul 182 .f64 X (f10 k) F this
      clear hF hX r1 r2 r3 c2;generalize f10 k=fk at*
      cases b1 with
      |true=>
       clear u2
       cases neg with
       |false=>
        have q1:=hXf rfl;clear hXf hXt r4;go_enter Tryz.func284,Tryz.ntmps284;go_wp2_with fail;go_ret2;exact qcR _ _ _
       |true=>
        have q1:=hXt rfl;clear hXf hXt;go_enter Tryz.func284,Tryz.ntmps284;go_wp2_with fail;go_ret2;exact qcR _ _ _
      |false=>
       cases b2 with
       |true=>
        clear u2
        cases neg with
        |false=>
         have q1:=hXf rfl;clear hXf hXt r4;go_enter Tryz.func284,Tryz.ntmps284;go_wp2_with fail;go_ret2;exact qcR _ _ _
        |true=>
         have q1:=hXt rfl;clear hXf hXt;go_enter Tryz.func284,Tryz.ntmps284;go_wp2_with fail;go_ret2;exact qcR _ _ _
       |false=>
        cases neg with
        |false=>
         have q1:=hXf rfl;clear hXf hXt r4;go_enter Tryz.func284,Tryz.ntmps284;go_wp2_with fail;go_ret2;exact qdg _ _
        |true=>
         have q1:=hXt rfl;clear hXf hXt;go_enter Tryz.func284,Tryz.ntmps284;go_wp2_with fail;go_ret2;exact qdg _ _
    ·have t4:decide (p≤37)=false:=dF p37;have t5:decide (p<0)=false:=dF (by omega);clear hF hX r1 r2 r3 c2
     cases neg with
     |false=>
      have q1:=hXf rfl;clear hXf hXt r4;go_enter Tryz.func284,Tryz.ntmps284;go_wp2_with fail;go_ret2;exact qcR _ _ _
     |true=>
      have q1:=hXt rfl;clear hXf hXt;go_enter Tryz.func284,Tryz.ntmps284;go_wp2_with fail;go_ret2;exact qcR _ _ _
   ·have t3:decide (0<p)=false:=dF pp;have t5:decide (p<0)=true:=dT (by omega)
    by_cases p22: -22≤p
    ·have t4:decide (-22≤p)=true:=dT p22;obtain⟨k,hk⟩: ∃k:Nat,p= -(k:Int):=⟨(-p).toNat,by omega⟩;subst hk;have hk1:k<23:=by omega
     have hk0:0<k:=by omega
     have e1: - -(k:Int)=k:=by omega
     have c3:=c2 k hk1
     have u2: ∀W:World,(binOp .quo 182 (.float .f64 X) (.float .f64 (f10 k))).run Tryz.prog W= .ok (.float .f64 F) W:=by
      intro W;have hi:(-(k:Int)+348).toNat=348 - k:=by omega
      have:=qr5 neg r0 k d (348 - k) r1 r2 hk1 h0 (by omega) (by omega) (by unfold pP;rw[if_neg (by omega)]) (by unfold pQ;rw[if_neg (by omega),show 348 - (348 - k)=k by omega]);rw[←hX,←hi,←hF] at this;exact run_float_arith W .quo 182 .f64 X (f10 k) F this
     clear hF hX r1 r2 r3 c2;generalize f10 k=fk at*
     cases neg with
     |false=>
      have q1:=hXf rfl;clear hXf hXt r4;go_enter Tryz.func284,Tryz.ntmps284;go_wp2_with fail;go_ret2;exact qdg _ _
     |true=>
      have q1:=hXt rfl;clear hXf hXt;go_enter Tryz.func284,Tryz.ntmps284;go_wp2_with fail;go_ret2;exact qdg _ _
    ·have t4:decide (-22≤p)=false:=dF p22;clear hF hX r1 r2 r3 c2
     cases neg with
     |false=>
      have q1:=hXf rfl;clear hXf hXt r4;go_enter Tryz.func284,Tryz.ntmps284;go_wp2_with fail;go_ret2;exact qcR _ _ _
     |true=>
      have q1:=hXt rfl;clear hXf hXt;go_enter Tryz.func284,Tryz.ntmps284;go_wp2_with fail;go_ret2;exact qcR _ _ _
end Go.Proofs.YtdeimnnpcfncpaaGreatDoor
