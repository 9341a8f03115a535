/- Parts of the proof: D1 D2 D3 D4 D5 D15 D16 D17 D19. -/
import Derived.IntWalk
import Derived.Laws.BitsAllLaws
import Derived.Laws.Externs
import Derived.Lib.ItoaNum
import Derived.Lib.AppendIntMem
import Derived.Test.YtdeimnnpcfncpaaGreatDoorCY05
import Derived.Test.YtdeimnnpcfncpaaGreatDoorCY08
set_option linter.unusedVariables false
set_option linter.unusedSimpArgs false
set_option maxRecDepth 100000
set_option maxHeartbeats 64000000
section
namespace Go.Proofs.YtdeimnnpcfncpaaGreatDoor
open Go Go.RowKit
theorem qbJ (b:Bool) (w:World):Calls Tryz.prog 282 #[.bool b] w fun e w'=>e= .returned (.int .u64 (if b then 1 else 0))∧w=w':=by
 cases b
 all_goals
  go_enter Tryz.func282,Tryz.ntmps282;go_wp2;go_ret;exact⟨rfl,rfl⟩
theorem qg9 (b:Bool) (w:World):Calls Tryz.prog 282 #[.bool b] w fun e w'=>e= .returned (.int .u64 (if b then 1 else 0))∧w'=w:=(qbJ b w).mono fun _ _ h=>⟨h.1,h.2.symm⟩
theorem qeI (b:Bool) (w:World):Calls Tryz.prog 232 #[.bool b] w fun e w'=>e= .returned (.int .i64 (if b then 1 else 0))∧w=w':=by
 cases b
 all_goals
  go_enter Tryz.func232,Tryz.ntmps232;go_wp2;go_ret;exact⟨rfl,rfl⟩
theorem qf3 (w:World):Calls Tryz.prog 297 #[.int .u64 9007199254740992] w fun e w'=>e= .returned (.int .u64 36028797018963966)∧w=w':=by
 go_enter Tryz.func297,Tryz.ntmps297;go_wp2;go_ret;exact⟨rfl,rfl⟩
theorem qmV (p:Int) (h0: -1000≤p) (h1:p≤1000) (w:World):Calls Tryz.prog 294 #[.int .i64 p] w fun e w'=>e= .returned (.int .i64 (lp2 p))∧w=w':=by
 go_enter Tryz.func294,Tryz.ntmps294;go_wp2;go_ret;exact⟨rfl,rfl⟩
theorem qsE {a b:Int} (h:a=b):Ending.returned (.int .u64 a)= .returned (.int .u64 b):=by rw[h]
theorem qhn (a:Nat) (h:a<18446744073709551616):bits .and .u64 (a:Int) 1=((a%2:Nat):Int):=by
 have:=u64_and_nat a 1 h (by decide);rw[Nat.and_one_is_mod] at this;exact this
theorem qgA (u:Nat) (h1:u<9223372036854775808) (w:World):Calls Tryz.prog 299 #[.int .u64 u] w fun e w'=>e= .returned (.int .u64 (rnd u))∧w=w':=by
 have b1:bits .and .u64 ((u:Int)/4) 1=((u:Int)/4)%2:=by
  have:=qhn (u/4) (by omega);rw[show((u:Int)/4)=((u/4:Nat):Int) by omega,this];omega
 have l1:0≤((u:Int)/4)%2∧((u:Int)/4)%2≤1:=by omega
 go_enter Tryz.func299,Tryz.ntmps299;go_wp2;go_ret;exact⟨qsE (by unfold rnd;omega),rfl⟩
def qqJ (w:World):Prop:= ∀i,i<696→w.cell? ⟨15,i*2,none⟩=some (.int .u64 (thi i))∧w.cell? ⟨15,i*2+1,none⟩=some (.int .u64 (tlo i))
def qtr (w:World) (b:Nat) (hi lo:Int) (s:Int):Prop:=w.cell? ⟨b,0,none⟩=some (.int .u64 hi)∧w.cell? ⟨b,1,none⟩=some (.int .u64 lo)∧w.cell? ⟨b,2,none⟩=some (.int .i64 s)
theorem qf1 (b i:Nat) (e lp:Int) (hi:i<696) (he: -10000≤e∧e≤10000) (hl: -10000≤lp∧lp≤10000) (w:World) (x y z:Value) (hT:qqJ w) (hb:w.heap[b]?=some (.cells #[x,y,z] 358 (0,0))) (hb15:b≠15):
 Calls Tryz.prog 295 #[.pointer (some ⟨b,0,none⟩),.int .i64 e,.int .i64 ((i:Int) - 348),.int .i64 lp] w fun r w'=>r= .returned (.tuple #[])∧w'=((w.setCell ⟨b,0,none⟩ (.int .u64 (thi i))).setCell ⟨b,1,none⟩ (.int .u64 (tlo i))).setCell ⟨b,2,none⟩ (.int .i64 (-(e+lp+3))):=by
 obtain⟨c1,c2⟩:=hT i hi;have d0:w.cell? ⟨b,0,none⟩=some x:=by simp[World.cell?,hb]
 have d1:w.cell? ⟨b,1,none⟩=some y:=by simp[World.cell?,hb]
 have d2:w.cell? ⟨b,2,none⟩=some z:=by simp[World.cell?,hb]
 have f0:w.frozen? ⟨b,0,none⟩=false:=by simp[World.frozen?,hb]
 have f1:w.frozen? ⟨b,1,none⟩=false:=by simp[World.frozen?,hb]
 have f2:w.frozen? ⟨b,2,none⟩=false:=by simp[World.frozen?,hb]
 have hb15':15≠b:=hb15.symm;have hz:Hid (w.heap[b]?=some (.cells #[x,y,z] 358 (0,0))):=hb;have l1:(0:Int)≤(i:Int) - 348+348:=by omega
 have l2:(i:Int) - 348+348=i:=by omega
 have l3:(i:Int)<696:=by omega
 clear hb;go_enter Tryz.func295,Tryz.ntmps295;go_wp2;go_end0;exact⟨rfl,rfl⟩
theorem qls (n:Int):bits .and .i64 n 63=n%64:=by
 have h63:(BitVec.ofInt 64 63).toNat=2^6 - 1:=by decide
 have key:(BitVec.ofInt 64 n &&& BitVec.ofInt 64 63).toNat=(n%((2^64:Nat):Int)).toNat%2^6:=by
  rw[BitVec.toNat_and,BitVec.toNat_ofInt,h63,Nat.and_two_pow_sub_one_eq_mod]
 show IntKind.i64.wrap ((BitVec.ofInt 64 n &&& BitVec.ofInt 64 63).toNat:Nat)=n%64;rw[key,IntKind.wrap_i64];omega
theorem qaY (n:Int) (h0:0≤n) (h1:n<18446744073709551616):IntKind.u64.wrap n=n:=by
 rw[IntKind.wrap_u64];omega
theorem qgi (n:Int) (h0: -18446744073709551616≤n) (h1:n<0):IntKind.u64.wrap n=n+18446744073709551616:=by
 rw[IntKind.wrap_u64];omega
theorem qgU (a:Nat) (h:a<18446744073709551616):bits .or .u64 (a:Int) 1=((a ||| 1:Nat):Int):=u64_or_nat a 1 h (by decide)
theorem qki (a:Nat) (h:a<18446744073709551616):bits .or .u64 (a:Int) 0=(a:Int):=by
 have:=u64_or_nat a 0 h (by decide);rw[Nat.or_zero] at this;exact this
theorem qiX (x hi lo s:Nat) (hx:x<18446744073709551616) (hh:hi<18446744073709551616) (hl:lo<18446744073709551616) (hs:s<64) (h0:0<x*hi/18446744073709551616) (b:Nat) (w:World) (hb:qtr w b hi lo s) (R:Nat) (hR:usc x hi lo s=R):
 Calls Tryz.prog 296 #[.int .u64 x,.pointer (some ⟨b,0,none⟩)] w fun r w'=>r= .returned (.int .u64 R)∧ ∃n,w'=w.drewN n:=by
 obtain⟨c0,c1,c2⟩:=hb
 have b63:bits .and .i64 (s:Int) 63=s:=by
  rw[qls];omega
 have q:=Tryz.bits_Mul64 x hi hx hh w;have q2:=Tryz.bits_Mul64 x lo hx hl w;have hH1:x*hi/18446744073709551616<18446744073709551616:=(Nat.div_lt_iff_lt_mul (by decide)).2 (Nat.mul_lt_mul'' hx hh);have hM1:x*hi%18446744073709551616<18446744073709551616:=Nat.mod_lt _ (by decide)
 have hM2:x*lo/18446744073709551616≤18446744073709551614:=by
  have:x*lo≤18446744073709551615*18446744073709551615:=Nat.mul_le_mul (by omega) (by omega);omega
 unfold usc at hR;dsimp only at hR;generalize x*hi/18446744073709551616=H at*;generalize x*hi%18446744073709551616=m1 at*;generalize x*lo/18446744073709551616=m2 at*;generalize x*lo%18446744073709551616=r2 at*;have hdm:H/2^s*2^s≤H:=Nat.div_mul_le_self _ _;have hds:H/2^s≤H:=Nat.div_le_self _ _
 have e1:((H:Int)/2^s)=((H/2^s:Nat):Int):=by
  rw[Int.natCast_ediv,Int.natCast_pow];rfl
 have e2:IntKind.u64.wrap ((H:Int)/2^s*2^s)=((H/2^s*2^s:Nat):Int):=by
  rw[e1,←(by rw[Int.natCast_mul,Int.natCast_pow];rfl:((H/2^s*2^s:Nat):Int)=((H/2^s:Nat):Int)*2^s)];exact qaY _ (by omega) (by omega)
 obtain⟨Y,hY⟩: ∃Y,Y=H/2^s*2^s:=⟨_,rfl⟩;rw[←hY] at e2 hdm;replace q:=Lh q;replace q2:=Lh q2
 by_cases g:H%2^s≠0
 ·rw[if_pos g] at hR
  have hne:Y≠H:=by
   intro e;have:=Nat.div_add_mod H (2^s);rw[Nat.mul_comm] at this;omega
  have t1:((Y:Int) !=(H:Int))=true:=by rw[bne_iff_ne];omega
  have t2:bits .or .u64 ((H:Int)/2^s) 1=R:=by rw[e1,qgU _ (by omega),hR]
  clear hR g e1 hY hne;go_enter Tryz.func296,Tryz.ntmps296;go_wp2_with fail;refine(q.out).mono ?_;rintro r w1 ⟨rfl,rfl⟩;go_wp2_with fail;go_ret;exact⟨rfl,0,rfl⟩
 ·rw[if_neg g] at hR
  have hYH:Y=H:=by
   have:=Nat.div_add_mod H (2^s);rw[Nat.mul_comm] at this;omega
  have t1:((H:Int) !=(H:Int))=false:=by simp
  rw[hYH] at e2;clear hY hYH hdm g
  by_cases g2:m1<m2
  ·rw[if_pos g2] at hR;have t2:decide (m1<m2)=true:=dT g2;have e3:IntKind.u64.wrap ((m1:Int) - m2)=(m1:Int) - m2+18446744073709551616:=qgi _ (by omega) (by omega);have e4:IntKind.u64.wrap ((H:Int) - 1)=((H - 1:Nat):Int):=by rw[qaY _ (by omega) (by omega)];omega
   have t3:decide (1<(m1:Int) - m2+18446744073709551616)=true:=dT (by omega);have hds2:(H - 1)/2^s≤H - 1:=Nat.div_le_self _ _
   have t4:bits .or .u64 (((H - 1:Nat):Int)/2^s) 1=R:=by
    rw[show(((H - 1:Nat):Int)/2^s)=(((H - 1)/2^s:Nat):Int) by rw[Int.natCast_ediv,Int.natCast_pow];rfl,qgU _ (by omega),hR]
   generalize H - 1=G at*;clear hR e1 g2;go_enter Tryz.func296,Tryz.ntmps296;go_wp2_with fail;refine(q.out).mono ?_;rintro r w1 ⟨rfl,rfl⟩;go_wp2_with fail;refine(q2.out).mono ?_;rintro r w1 ⟨rfl,rfl⟩;go_wp2_with fail;refine(qbJ true _).mono ?_;rintro r w1 ⟨rfl,rfl⟩;go_upto_region 7 with (fail)
   go_quiet ((go_at_call 282;exact Calls.quiet_of_same (qg9 _ _)));go_wp2_with fail;go_ret;exact⟨rfl,_,rfl⟩
  ·rw[if_neg g2] at hR;have t2:decide (m1<m2)=false:=dF g2;have e3:IntKind.u64.wrap ((m1:Int) - m2)=((m1 - m2:Nat):Int):=by rw[qaY _ (by omega) (by omega)];omega
   have e4:IntKind.u64.wrap ((H:Int) - 0)=(H:Int):=by rw[qaY _ (by omega) (by omega)];omega
   by_cases g3:1<m1 - m2
   ·rw[if_pos g3] at hR;have t3:decide (1<m1 - m2)=true:=dT g3;have t3':decide (1<((m1 - m2:Nat):Int))=true:=dT (by omega);have t4:bits .or .u64 ((H:Int)/2^s) 1=R:=by rw[e1,qgU _ (by omega),hR]
    generalize m1 - m2=D at*;clear hR e1 g2 g3;go_enter Tryz.func296,Tryz.ntmps296;go_wp2_with fail;refine(q.out).mono ?_;rintro r w1 ⟨rfl,rfl⟩;go_wp2_with fail;refine(q2.out).mono ?_;rintro r w1 ⟨rfl,rfl⟩;go_wp2_with fail;refine(qbJ false _).mono ?_;rintro r w1 ⟨rfl,rfl⟩;go_upto_region 7 with (fail)
    go_quiet ((go_at_call 282;exact Calls.quiet_of_same (qg9 _ _)));go_wp2_with fail;go_ret;exact⟨rfl,_,rfl⟩
   ·rw[if_neg g3] at hR;have t3:decide (1<m1 - m2)=false:=dF g3;have t3':decide (1<((m1 - m2:Nat):Int))=false:=dF (by omega);have t4:bits .or .u64 ((H:Int)/2^s) 0=R:=by rw[e1,qki _ (by omega),hR]
    generalize m1 - m2=D at*;clear hR e1 g2 g3;go_enter Tryz.func296,Tryz.ntmps296;go_wp2_with fail;refine(q.out).mono ?_;rintro r w1 ⟨rfl,rfl⟩;go_wp2_with fail;refine(q2.out).mono ?_;rintro r w1 ⟨rfl,rfl⟩;go_wp2_with fail;refine(qbJ false _).mono ?_;rintro r w1 ⟨rfl,rfl⟩;go_upto_region 7 with (fail)
    go_quiet ((go_at_call 282;exact Calls.quiet_of_same (qg9 _ _)));go_wp2_with fail;go_ret;exact⟨rfl,_,rfl⟩
end Go.Proofs.YtdeimnnpcfncpaaGreatDoor
end
section
namespace Go.Proofs.YtdeimnnpcfncpaaGreatDoor
theorem qfg (n i:Nat):n &&& 2^i=n/2^i%2*2^i:=by
 have hb:=Nat.testBit_eq_decide_div_mod_eq (x:=n) (i:=i);have hc:n/2^i%2=0∨n/2^i%2=1:=by omega
 apply Nat.eq_of_testBit_eq;intro j;rw[Nat.testBit_and,Nat.testBit_two_pow];rcases hc with h|h
 ·rw[h,Nat.zero_mul,Nat.zero_testBit];rw[h] at hb
  by_cases e:i=j
  ·subst e;rw[hb];rfl
  ·simp[e]
 ·rw[h,Nat.one_mul,Nat.testBit_two_pow];rw[h] at hb
  by_cases e:i=j
  ·subst e;rw[hb];simp
  ·simp[e]
theorem qg3 (n i k:Nat) (hi:i<k) (hn:n<2^k):n &&& (2^k - 1 - 2^i)=n - (n &&& 2^i):=by
 have h1:2^k - 1 - 2^i=2^k - (2^i+1):=by omega
 have h2:2^i<2^k:=Nat.pow_lt_pow_right (by omega) hi;rw[h1,qfg];have hd:=Nat.div_add_mod n (2^(i+1));have hm:=Nat.mod_lt n (Nat.two_pow_pos (i+1))
 obtain⟨a,b,c,hb,hc,hn2⟩: ∃a b c,b<2∧c<2^i∧n=2^(i+1)*a+(2^i*b+c):=by
  refine⟨n/2^(i+1),n%2^(i+1)/2^i,n%2^(i+1)%2^i,?_,Nat.mod_lt _ (Nat.two_pow_pos i),?_⟩
  ·rw[Nat.div_lt_iff_lt_mul (Nat.two_pow_pos i)];rw[Nat.pow_succ] at hm;omega
  ·rw[Nat.div_add_mod,Nat.div_add_mod]
 have hbit:n/2^i%2=b:=by
  rw[hn2,Nat.pow_succ,show 2^i*2*a+(2^i*b+c)=2^i*(2*a+b)+c by rw[Nat.mul_add];rw[Nat.mul_assoc];omega,Nat.mul_add_div (Nat.two_pow_pos i),Nat.div_eq_of_lt hc];omega
 have hres:n - b*2^i=2^(i+1)*a+c:=by
  rw[hn2,Nat.mul_comm b];omega
 rw[hbit,hres];apply Nat.eq_of_testBit_eq;intro j;rw[Nat.testBit_and,Nat.testBit_two_pow_sub_succ h2,Nat.testBit_two_pow,hn2]
 have hlt:2^i*b+c<2^(i+1):=by
  rw[Nat.pow_succ];have:2^i*b≤2^i*1:=Nat.mul_le_mul_left _ (by omega);omega
 have hc2:c<2^(i+1):=by rw[Nat.pow_succ];omega
 rw[Nat.testBit_two_pow_mul_add a hlt,Nat.testBit_two_pow_mul_add a hc2]
 by_cases hj:j<i+1
 ·rw[if_pos hj,if_pos hj,Nat.testBit_two_pow_mul_add b hc]
  by_cases hji:j<i
  ·rw[if_pos hji];have:j<k:=by omega
   simp[this];omega
  ·have:j=i:=by omega
   subst this;simp[Nat.testBit_lt_two_pow hc]
 ·rw[if_neg hj,if_neg hj]
  by_cases hjk:j<k
  ·simp[hjk];intro _;omega
  ·have:a.testBit (j - (i+1))=false:=by
    apply Nat.testBit_lt_two_pow
    have h3:2^(i+1)*a<2^(i+1)*2^(k - (i+1)):=by
     rw[←Nat.pow_add,show i+1+(k - (i+1))=k by omega];omega
    have h4:=Nat.lt_of_mul_lt_mul_left h3;exact Nat.lt_of_lt_of_le h4 (Nat.pow_le_pow_right (by omega) (by omega))
   simp[this]
theorem qoe (i a b:Nat) (h:b<2^i):(2^i*a) ||| b=2^i*a+b:=(Nat.two_pow_add_eq_or_of_lt h a).symm
theorem qa1 (sg m:Nat) (hs:sg=0∨sg=9223372036854775808) (hm:m<9223372036854775808):sg ||| m=sg+m:=by
 rcases hs with rfl|rfl
 ·rw[Nat.zero_or,Nat.zero_add]
 ·exact qoe 63 1 m hm
theorem qfX (sg m:Nat) (hs:sg=0∨sg=9223372036854775808) (hm:m<9007199254740992):(sg+m) &&& 4503599627370496=if 4503599627370496≤m then 4503599627370496 else 0:=by
 rw[show(4503599627370496:Nat)=2^52 from rfl,qfg];have h:(sg+m)/4503599627370496%2=m/4503599627370496:=by rcases hs with rfl|rfl<;>omega
 rw[show(2:Nat)^52=4503599627370496 from rfl,h]
 split<;>omega
theorem qra (sg m:Nat) (hs:sg=0∨sg=9223372036854775808) (hm:m<9223372036854775808):(sg+m) &&& 9223372036854775808=sg:=by
 rw[show(9223372036854775808:Nat)=2^63 from rfl,qfg,show(2:Nat)^63=9223372036854775808 from rfl];rcases hs with rfl|rfl<;>omega
theorem qkJ (sg m:Nat) (hs:sg=0∨sg=9223372036854775808) (hm:m<9007199254740992) (h:4503599627370496≤m):(sg+m) &&& (18446744073709551615 - 4503599627370496)=sg+m - 4503599627370496:=by
 have h1:=qg3 (sg+m) 52 64 (by omega) (by rw[show(2:Nat)^64=18446744073709551616 from rfl];rcases hs with rfl|rfl<;>omega);have h2:=qfX sg m hs hm;rw[if_pos h] at h2;rw[show(2:Nat)^52=4503599627370496 from rfl,h2] at h1;exact h1
theorem qcq (sg r k:Nat) (hs:sg=0∨sg=9223372036854775808) (hr:r<4503599627370496) (hk:k<2048):(sg+r) ||| (k*4503599627370496)=sg+r+k*4503599627370496:=by
 have h1:k*4503599627370496+r=(k*4503599627370496) ||| r:=by
  rw[Nat.mul_comm];exact(qoe 52 k r hr).symm
 have h2:=qa1 sg (k*4503599627370496+r) hs (by omega);have h3:=qa1 sg r hs (by omega);rw[←h3,Nat.or_assoc,Nat.or_comm r,←h1,h2,h3];omega
end Go.Proofs.YtdeimnnpcfncpaaGreatDoor
end
section
namespace Go.Proofs.YtdeimnnpcfncpaaGreatDoor
open Go Go.RowKit
theorem qpJ (n:Int) (w:World):(callFunc 283 #[.int .u64 n]).run Tryz.prog w= .ok (.value (.float .f64 n.toNat)) w:=by
 rw[run_callFunc_extern (e:=Extern.MathFloatBits.float64frombits) Tryz.func283 (by kernel_rfl) (by kernel_rfl) (by kernel_rfl) (by kernel_rfl)];rfl
def qfB (inf:Bool):Value:=if inf then .iface 287 (.int .i64 1) else .nilIface
theorem qry {a b:Nat} {x y:Value} (h:a=b) (h2:x=y):Ending.returned (.tuple #[.float .f64 a,x])= .returned (.tuple #[.float .f64 b,y]):=by rw[h,h2]
theorem qpB (k:Nat) (h:k<2048):IntKind.u64.wrap (k:Int)=k∧IntKind.u64.wrap ((k:Int)*4503599627370496)=((k*4503599627370496:Nat):Int):=
 ⟨qaY _ (by omega) (by omega),by rw[qaY _ (by omega) (by omega)];omega⟩
theorem qrm (m k:Nat) (e:Int) (hm:m<9007199254740992) (g:4503599627370496≤m) (hk:1075+e=k) (g2: ¬972≤e) (he: -1074≤e):min (m+(1074+e).toNat*4503599627370496) INF=m+(k - 1)*4503599627370496∧m+(k - 1)*4503599627370496≠INF:=by
 have h1:(1074+e).toNat=k - 1:=by omega
 rw[h1];unfold INF;have h2:k - 1≤2045:=by omega
 omega
theorem qsC (sg m k:Nat) (hs:sg=0∨sg=9223372036854775808) (hm:m<9007199254740992) (g:4503599627370496≤m) (hk:1≤k) (hk2:k<2048):
 bits .or .u64 ((sg+(m - 4503599627370496):Nat):Int) ((k*4503599627370496:Nat):Int)=((sg+(m+(k - 1)*4503599627370496):Nat):Int):=by
 have:=u64_or_nat (sg+(m - 4503599627370496)) (k*4503599627370496) (by omega) (by omega);rw[qcq sg _ k hs (by omega) (by omega)] at this;rw[this];have:k*4503599627370496=(k - 1)*4503599627370496+4503599627370496:=by rw[←Nat.succ_mul];congr 1;omega
 omega
theorem qhO (sg m:Nat) (e:Int) (hs:sg=0∨sg=9223372036854775808) (hm:m<9007199254740992) (he: -1074≤e) (he2:e≤2000) (hlow:m<4503599627370496→e= -1074) (w:World):
 Calls Tryz.prog 302 #[.int .u64 ((sg+m:Nat):Int),.int .i64 e] w fun x w'=>x= .returned (.tuple #[.float .f64 (sg+min (m+(1074+e).toNat*4503599627370496) INF),qfB (decide (min (m+(1074+e).toNat*4503599627370496) INF=INF))])∧w=w':=by
 have f1:=qpJ;have a1:=qfX sg m hs hm;have b1:bits .and .u64 ((sg+m:Nat):Int) 4503599627370496=(((sg+m) &&& 4503599627370496:Nat):Int):=u64_and_nat (sg+m) 4503599627370496 (by omega) (by decide);rw[a1] at b1
 by_cases g:4503599627370496≤m
 ·rw[if_pos g] at b1
  by_cases g2:972≤e
  ·have a2:=qra sg m hs (by omega)
   have b2:bits .and .u64 ((sg+m:Nat):Int) 9223372036854775808=(sg:Int):=by
    have:=u64_and_nat (sg+m) 9223372036854775808 (by omega) (by decide);rw[a2] at this;exact this
   have b3:bits .or .u64 (sg:Int) 9218868437227405312=((sg+9218868437227405312:Nat):Int):=by
    have:=u64_or_nat sg 9218868437227405312 (by omega) (by decide);rw[qa1 sg _ hs (by omega)] at this;exact this
   have t1:decide (972≤e)=true:=dT g2;have hmin:min (m+(1074+e).toNat*4503599627370496) INF=INF:=by unfold INF;omega
   obtain⟨N,hN⟩: ∃N,N=sg+m:=⟨_,rfl⟩;obtain⟨N2,hN2⟩: ∃N,N=sg+9218868437227405312:=⟨_,rfl⟩;rw[←hN] at b1 b2⊢;rw[←hN2] at b3;rw[hmin,show sg+INF=N2 from hN2.symm,show qfB (decide (INF=INF))= .iface 287 (.int .i64 1) by rw[dT rfl];rfl];clear hmin a1 a2 g hs hlow hm;clear hN hN2;go_enter Tryz.func302,Tryz.ntmps302;go_wp2_with fail;go_ret2;exact⟨rfl,rfl⟩
  ·have a2:=qkJ sg m hs hm g;obtain⟨k,hk⟩: ∃k:Nat,1075+e=k:=⟨(1075+e).toNat,by omega⟩;have hk1:1≤k∧k<2048:=by omega
   have b2:bits .andNot .u64 ((sg+m:Nat):Int) 4503599627370496=((sg+(m - 4503599627370496):Nat):Int):=by
    have:=u64_andNot_nat (sg+m) 4503599627370496 (by omega) (by decide);rw[a2,show sg+m - 4503599627370496=sg+(m - 4503599627370496) by omega] at this;exact this
   have b3:=qsC sg m k hs hm g hk1.1 hk1.2;obtain⟨e3,e4⟩:=qpB k hk1.2;obtain⟨hmin,hni⟩:=qrm m k e hm g hk g2 he;have t1:decide (972≤e)=false:=dF g2;obtain⟨r,hr⟩: ∃r,r=m+(k - 1)*4503599627370496:=⟨_,rfl⟩;rw[hmin,dF hni,show qfB false= .nilIface from rfl,←hr];rw[←hr] at b3;clear hni hmin hr;obtain⟨N,hN⟩: ∃N,N=sg+m:=⟨_,rfl⟩;obtain⟨N2,hN2⟩: ∃N,N=sg+(m - 4503599627370496):=⟨_,rfl⟩;obtain⟨N3,hN3⟩: ∃N,N=sg+r:=⟨_,rfl⟩;obtain⟨N4,hN4⟩: ∃N,N=k*4503599627370496:=⟨_,rfl⟩;rw[←hN] at b1 b2⊢;rw[←hN2] at b2 b3;rw[←hN3] at b3⊢;rw[←hN4] at b3 e4;clear a1 a2 g hs hlow hm hN hN2 hN3 hN4 g2;go_enter Tryz.func302,Tryz.ntmps302;go_wp2_with fail;go_ret2;exact⟨rfl,rfl⟩
 ·rw[if_neg g] at b1;have he0:=hlow (by omega);have hmin:min (m+(1074+e).toNat*4503599627370496) INF=m:=by unfold INF;omega
  have hni:decide (m=INF)=false:=by apply dF;unfold INF;omega
  rw[hmin,hni,show qfB false= .nilIface from rfl];generalize sg+m=N at*;clear hmin hni a1 g hs hlow hm;go_enter Tryz.func302,Tryz.ntmps302;go_wp2_with fail;go_ret2;exact⟨rfl,rfl⟩
theorem qsW (d:Nat) (h0:0<d) (h:d<18446744073709551616):Lib.bitLen d=bl d:=by
 obtain⟨h1,h2,h3⟩:=Lib.bitLenAux_bounds 64 d h (by omega);show Lib.bitLenAux 64 d=_;generalize Lib.bitLenAux 64 d=b at*;have h4:=qjB d;have h5:=qqL d h0;have:1≤bl d:=by unfold bl;omega
 have a:b≤bl d:=by
  apply Nat.le_of_not_lt;intro hlt;have:=Nat.pow_le_pow_right (n:=2) (by omega) (show bl d≤b - 1 by omega);omega
 have c:bl d≤b:=by
  apply Nat.le_of_not_lt;intro hlt;have:=Nat.pow_le_pow_right (n:=2) (by omega) (show b≤bl d - 1 by omega);omega
 omega
theorem qpE (u:Nat):u ||| u%2=u:=by
 apply Nat.eq_of_testBit_eq;intro j;rw[Nat.testBit_or]
 cases j with
 |zero=>simp[Nat.testBit_zero]
 |succ j=>
  rw[show(u%2).testBit (j+1)=false by
   apply Nat.testBit_lt_two_pow;have:2^(j+1)=2^j*2:=Nat.pow_succ ..;have:=Nat.two_pow_pos j
   omega]
  simp
theorem qmQ (B b i:Nat) (e lp s:Int) (hi:i<696) (he: -10000≤e∧e≤10000) (hl: -10000≤lp∧lp≤10000) (hs: -(e+lp+3)=s) (w:World) (x y z:Value) (hT:qqJ w) (hb:w.heap[b]?=some (.cells #[x,y,z] 358 (0,0))) (hb15:b≠15) (hB:B≤b):
 Calls Tryz.prog 295 #[.pointer (some ⟨b,0,none⟩),.int .i64 e,.int .i64 ((i:Int) - 348),.int .i64 lp] w fun r w'=>r= .returned (.tuple #[])∧qtr w' b (thi i) (tlo i) s∧Below B w w':=by
 subst hs;refine(qf1 b i e lp hi he hl w x y z hT hb hb15).mono ?_;rintro r w' ⟨rfl,rfl⟩;refine⟨rfl,?_,?_⟩
 ·have d0:w.cell? ⟨b,0,none⟩=some x:=by simp[World.cell?,hb]
  have d1:w.cell? ⟨b,1,none⟩=some y:=by simp[World.cell?,hb]
  have d2:w.cell? ⟨b,2,none⟩=some z:=by simp[World.cell?,hb]
  refine⟨?_,?_,?_⟩<;>simp[go_sem,d0,d1,d2]
 ·exact(((Below.refl B w).setCell (p:=⟨b,0,none⟩) hB _).setCell (p:=⟨b,1,none⟩) hB _).setCell (p:=⟨b,2,none⟩) hB _
theorem below_drewN {B:Nat} {a w:World} (h:Below B a w) (n:Nat):Below B a (w.drewN n):=⟨h.os,h.tape,h.output,h.size,h.block⟩
theorem qsr (x hi lo s:Nat) (hx:x<18446744073709551616) (hh:hi<18446744073709551616) (hs:8≤s):usc x hi lo s<9223372036854775808:=by
 have hH1:x*hi/18446744073709551616<18446744073709551616:=(Nat.div_lt_iff_lt_mul (by decide)).2 (Nat.mul_lt_mul'' hx hh);unfold usc;dsimp only;generalize x*hi/18446744073709551616=H at*;generalize x*hi%18446744073709551616=m1;generalize x*lo/18446744073709551616=m2;have h256:256≤2^s:=Nat.pow_le_pow_right (n:=2) (by omega) hs
 have key: ∀G,G<18446744073709551616→G/2^s<72057594037927936:=fun G hG=>by
  refine(Nat.div_lt_iff_lt_mul (Nat.two_pow_pos s)).2 ?_;have:72057594037927936*256≤72057594037927936*2^s:=Nat.mul_le_mul_left _ h256;omega
 have k1:=key H hH1;have k2:=key (H - 1) (by omega);have o: ∀a,a ||| 1≤a+1:=fun a=>by rw[or_one];omega
 have o1:=o (H/2^s);have o2:=o ((H - 1)/2^s)
 split
 ·omega
 ·split
  ·omega
  ·split<;>omega
def qms (sg r:Nat) (w:World) (x:Ending) (w':World):Prop:=x= .returned (.tuple #[.float .f64 (sg+r),qfB (decide (r=INF))])∧Below w.heap.size w w'
theorem qfW (d i sg:Nat) (h0:0<d) (hd:d<18446744073709551616) (hi:i<696) (hs:sg=0∨sg=9223372036854775808) (w:World) (hT:qqJ w) (hw:15<w.heap.size):
 Calls Tryz.prog 285 #[.int .u64 d,.int .i64 ((i:Int) - 348),.int .u64 sg] w (qms sg (qbZ d i) w):=by
 have q1:=Tryz.bits_Len64 d w (by omega) (by omega);rw[show((d:Int)).toNat=d by omega,qsW d h0 hd] at q1;have hb64:=qnD d hd;have hb1:1≤bl d:=by unfold bl;omega
 have q2:=qmV ((i:Int) - 348) (by omega) (by omega) w;have hlp: -1300≤lp2 ((i:Int) - 348)∧lp2 ((i:Int) - 348)≤1300:=by unfold lp2;omega
 obtain⟨R,hR⟩: ∃R,R=qbZ d i:=⟨_,rfl⟩;rw[←hR];unfold qbZ at hR;dsimp only at hR;have way:=fun (s j:Nat) a b c=>qrB d i h0 hd hi _ rfl s j (d*2^(64 - bl d)) _ a b c rfl rfl
 obtain⟨hx1,hx2⟩:=qsF d h0 hd;obtain⟨x,hx⟩: ∃x,x=d*2^(64 - bl d):=⟨_,rfl⟩;rw[←hx] at way hx1 hx2 hR;generalize lp2 ((i:Int) - 348)=lp at*
 have hxw:IntKind.u64.wrap ((d:Int)*2^(64 - bl d))=x:=by
  rw[←(by rw[hx,Int.natCast_mul,Int.natCast_pow];rfl:(x:Int)=(d:Int)*2^(64 - bl d))];exact qaY _ (by omega) (by omega)
 generalize bl d=b at*;replace way:=Lh way;replace hT:=Lh hT;replace hR:=Lh hR;replace hx:=Lh hx;go_enter Tryz.func285,Tryz.ntmps285;go_wp2_with fail;refine q1.mono ?_;rintro e w1 ⟨rfl,rfl⟩;go_wp2_with fail;refine q2.mono ?_;rintro e w2 ⟨rfl,rfl⟩;clear q1 q2;obtain⟨E,hE⟩: ∃E:Int,min 1074 (53 - (b:Int) - lp)=E:=⟨_,rfl⟩;have hE2:pfE ((b:Int)+lp)=E∧ -1400≤E∧E≤1074:=by unfold pfE;omega
 obtain⟨hE3,hE4,hE5⟩:=hE2;obtain⟨S,hS⟩: ∃S:Int,-(E - (64 - (b:Int))+lp+3)=S:=⟨_,rfl⟩;have hS2:pfS ((b:Int)+lp)=S:=by unfold pfS;omega
 have pre:=qmQ w1.heap.size w1.heap.size i (E - (64 - (b:Int))) lp S hi (by omega) (by omega) hS (w1.alloc (.cells #[.int .u64 0,.int .u64 0,.int .i64 0] 358)) (.int .u64 0) (.int .u64 0) (.int .i64 0) (fun k hk=>by
  have hc:=(Below.refl w1.heap.size w1).alloc (Nat.le_refl _) (.cells #[.int .u64 0,.int .u64 0,.int .i64 0] 358)
  exact⟨(hc.cell (p:=⟨15,k*2,none⟩) hw).trans (hT.out k hk).1,(hc.cell (p:=⟨15,k*2+1,none⟩) hw).trans (hT.out k hk).2⟩) (heap_alloc_new _ _) (by omega) (Nat.le_refl _)
 rw[hE3,hS2] at hR way;replace pre:=Lh pre;have hE3':=Lh hE3;have hS2':=Lh hS2;have hS':=Lh hS;clear hE3 hS2 hS;go_wp2_with fail;refine(pre.out).mono ?_;rintro e w2 ⟨rfl,hsc,hb2⟩;have B2:=Lh (((Below.refl w1.heap.size w1).alloc (Nat.le_refl _) (.cells #[.int .u64 0,.int .u64 0,.int .i64 0] 358)).trans hb2);clear pre hb2;have hsc2:=Lh hsc;obtain⟨c0,c1,c2⟩:=hsc
 by_cases g64:64≤S
 ·have t1:decide (64≤S)=true:=dT g64;have h:=hR.out;rw[if_pos g64] at h;have hf:sg+R=sg:=by omega
  have hni:qfB (decide (R=INF))= .nilIface:=by rw[dF (by rw[h];decide)];rfl
  have f1:=qpJ;have o1:bits .or .u64 (sg:Int) 0=sg:=qki sg (by omega);clear hR way h hT;go_wp2_with fail;go_ret2;exact⟨qry (by omega) hni.symm,B2.out⟩
 ·have t1:decide (64≤S)=false:=dF g64;have h:=hR.out;rw[if_neg g64] at h;obtain⟨s,hs1⟩: ∃s:Nat,S=s:=⟨S.toNat,by have:=hS'.out;omega⟩;obtain⟨j,hj1⟩: ∃j:Nat,1075 - E=j:=⟨(1075 - E).toNat,by omega⟩;have hs64:s<64:=by omega
  obtain⟨p1,p2,p3,p4,p5⟩:=way.out s j hs1 hj1 hs64;rw[hs1,hj1,Int.toNat_natCast,Int.toNat_natCast] at h;obtain⟨U,hU⟩: ∃U,U=usc x (thi i) (tlo i) s:=⟨_,rfl⟩;rw[←hU] at h p4 p5;have hsc:=hsc2.out;rw[hs1] at hsc;have hrow:=qjE i hi;have us:=qiX x (thi i) (tlo i) s hx2 hrow.h2 hrow.h3 hs64 p3 w1.heap.size w2 hsc U hU.symm
  have hU63:U<9223372036854775808:=by
   rw[hU];exact qsr x (thi i) (tlo i) s hx2 hrow.h2 p1
  replace us:=Lh us;replace h:=Lh h;replace B2:=B2.out;have hs1':=Lh hs1;have hjE:E=1075 - (j:Int):=by omega
  clear hR way hT hU hs1 hsc p3 hrow hS2' hE3' hS' hj1 hE
  by_cases g:36028797018963966≤U
  ·obtain⟨V,hV⟩: ∃V,U/2 ||| U%2=V:=⟨_,rfl⟩
   obtain⟨v1,v2⟩:=p4 g;rw[hV] at v1 v2;have h2:=h.out;unfold pk at h2;rw[if_pos g,hV] at h2;have t2:decide (36028797018963966≤(U:Int))=true:=dT (by omega);have b1:bits .and .u64 (U:Int) 1=((U%2:Nat):Int):=qhn U (by omega)
   have b2:bits .or .u64 ((U:Int)/2) ((U%2:Nat):Int)=V:=by
    have:=u64_or_nat (U/2) (U%2) (by omega) (by omega);rw[hV] at this;rw[←this];rfl
   have hm:rnd V<9007199254740992:=by unfold rnd;omega
   have hm2:4503599627370496≤rnd V:=by unfold rnd;omega
   have rr:=qgA V (by omega)
   have b3:bits .or .u64 (sg:Int) (rnd V:Int)=((sg+rnd V:Nat):Int):=by
    have:=u64_or_nat sg (rnd V) (by omega) (by omega);rw[qa1 sg _ hs (by omega)] at this;exact this
   have pa:=qhO sg (rnd V) (-(1075 - (j:Int) - 1)) hs hm (by omega) (by omega) (by omega);rw[show(1074+ -(1075 - (j:Int) - 1)).toNat=j by omega,←h2] at pa;replace rr:=Lh rr;replace pa:=Lh pa;generalize rnd V=m at*;generalize U%2=z at*;clear h2 hV p4 p5 v1 v2 h hs hi hm hm2 g;go_wp2_with fail;refine(us.out).mono ?_;rintro e w3 ⟨rfl,n3,rfl⟩;go_wp2_with fail;refine(qf3 _).mono ?_;rintro e w3 ⟨rfl,rfl⟩;go_wp2_with fail;refine(qeI true _).mono ?_;rintro e w3 ⟨rfl,rfl⟩;go_wp2_with fail;refine(rr.out _).mono ?_;rintro e w3 ⟨rfl,rfl⟩;go_wp2_with fail;refine(pa.out _).mono ?_;rintro e w3 ⟨rfl,rfl⟩;go_wp2_with fail;go_ret2;exact⟨rfl,below_drewN B2 _⟩
  ·have h2:=h.out;unfold pk at h2;rw[if_neg g] at h2;have t2:decide (36028797018963966≤(U:Int))=false:=dF (by omega);have b1:bits .and .u64 (U:Int) 1=((U%2:Nat):Int):=qhn U (by omega)
   have b2:bits .or .u64 (U:Int) ((U%2:Nat):Int)=U:=by
    have:=u64_or_nat U (U%2) (by omega) (by omega);rw[qpE] at this;exact this
   have hm:rnd U<9007199254740992:=by unfold rnd;omega
   have hm2:1<j→4503599627370496≤rnd U:=fun hj=>by have:=p5 hj;unfold rnd;omega
   have rr:=qgA U (by omega)
   have b3:bits .or .u64 (sg:Int) (rnd U:Int)=((sg+rnd U:Nat):Int):=by
    have:=u64_or_nat sg (rnd U) (by omega) (by omega);rw[qa1 sg _ hs (by omega)] at this;exact this
   have pa:=qhO sg (rnd U) (-(1075 - (j:Int))) hs hm (by omega) (by omega) (fun h=>by
    by_cases hj:1<j
    ·have:=hm2 hj;omega
    ·omega)
   rw[show(1074+ -(1075 - (j:Int))).toNat=j - 1 by omega,←h2] at pa;replace rr:=Lh rr;replace pa:=Lh pa;generalize rnd U=m at*;generalize U%2=z at*;clear h2 p4 p5 h hs hi hm hm2 g;go_wp2_with fail;refine(us.out).mono ?_;rintro e w3 ⟨rfl,n3,rfl⟩;go_wp2_with fail;refine(qf3 _).mono ?_;rintro e w3 ⟨rfl,rfl⟩;go_wp2_with fail;refine(qeI false _).mono ?_;rintro e w3 ⟨rfl,rfl⟩;go_wp2_with fail;refine(rr.out _).mono ?_;rintro e w3 ⟨rfl,rfl⟩;go_wp2_with fail;refine(pa.out _).mono ?_;rintro e w3 ⟨rfl,rfl⟩;go_wp2_with fail;go_ret2;exact⟨rfl,below_drewN B2 _⟩
theorem qc9 (d i r:Nat) (h0:0<d) (hd:d<18446744073709551616) (hi:i<696) (h:qbm (d*pP i*2^1075) (pQ i) r):r=qbZ d i:=
 qd1 (qhY i) h (qdT d i h0 hd hi)
theorem qn3 (neg:Bool) (r0 A k d i:Nat) (hr:r0<INF) (hr0:0<r0) (hA:V r0=A*2^1074) (hk:k<23) (h0:0<d) (hd:d<18446744073709551616) (hi:i<696) (hq:pQ i=1) (he:A*10^k=d*pP i):
 floatBits .mul .f64 (sgw neg+r0) (f10 k)=some (sgw neg+qbZ d i):=by
 obtain⟨f1,f2,f3⟩:=qlo k hk;obtain⟨r,h1,h2⟩:=qhz neg false r0 (f10 k) A (10^k) hr f2 hA f1 hr0 f3;rw[he] at h2;have:=qc9 d i r h0 hd hi (by rw[hq];exact h2);rw[show sgw false+f10 k=f10 k from Nat.zero_add _,Bool.xor_false,this] at h1;exact h1
theorem qr5 (neg:Bool) (r0 k d i:Nat) (hr:r0<INF) (hA:V r0=d*2^1074) (hk:k<23) (h0:0<d) (hd:d<9007199254740992) (hi:i<696) (hp:pP i=1) (hq:pQ i=10^k):
 floatBits .quo .f64 (sgw neg+r0) (f10 k)=some (sgw neg+qbZ d i):=by
 obtain⟨f1,f2,f3⟩:=qlo k hk;have hk2:(10:Nat)^k≤10^22:=Nat.pow_le_pow_right (by omega) (by omega);have e22:(10:Nat)^22<2^75:=by decide
 have e53:(9007199254740992:Nat)<2^75:=by decide
 obtain⟨r,h1,h2⟩:=qmD neg false r0 (f10 k) d (10^k) hr f2 hA f1 h0 (Nat.pow_pos (by omega)) (by omega) (by omega);have:=qc9 d i r h0 (by omega) hi (by rw[hp,hq,Nat.mul_one];exact h2);rw[show sgw false+f10 k=f10 k from Nat.zero_add _,Bool.xor_false,this] at h1;exact h1
theorem qrS (r0 d:Nat) (hr:r0<INF) (hA:V r0=d*2^1074) (h0:0<d) (hd:d<18446744073709551616):r0=qbZ d 348:=by
 refine qc9 d 348 r0 h0 hd (by omega) ?_;have h:=qjI r0 1 (by omega) Nat.one_pos;rw[hA] at h;have e1:pQ 348=1:=rfl;have e2:pP 348=1:=rfl;rw[e1,e2,Nat.mul_one];obtain⟨K,hK⟩: ∃K:Nat,K=1074:=⟨_,rfl⟩;rw[←hK] at h;rw[show 1075=K+1 by omega,Nat.pow_succ];rw[show d*(2^K*2)=2*(d*2^K)*1 by rw[Nat.mul_one,←Nat.mul_assoc,Nat.mul_comm 2]];exact h
theorem qmP (D r:Nat) (hD:0<D) (h:qbm (D*2^1075) 1 r) (hr:r≤4831355200913801216):V r=D*2^1074∧0<r:=by
 have h53:D<9007199254740992:=by
  apply Nat.lt_of_not_le;intro hge;have hv:V 4845873199050653696=9007199254740992*2^1074:=by decide+kernel
  have h2:=qjI 4845873199050653696 1 (by decide) Nat.one_pos;rw[hv] at h2;obtain⟨K,hK⟩: ∃K:Nat,K=1074:=⟨_,rfl⟩;rw[←hK] at h2;rw[show 1075=K+1 by omega,Nat.pow_succ] at h
  have:=qhm Nat.one_pos Nat.one_pos (by
   generalize 2^K=Z;have h3:=Nat.mul_le_mul_right (Z*2) hge;rw[Nat.mul_one,Nat.mul_one,Nat.mul_one]
   exact Nat.le_trans (by omega) h3) h2 h
  omega
 obtain⟨r1,a1,a2,a3⟩:=qhT D hD h53
 have:=qcX (r0:=r1) Nat.one_pos (by omega) (by
  rw[a2,Nat.mul_one];obtain⟨K,hK⟩: ∃K:Nat,K=1074:=⟨_,rfl⟩
  rw[←hK,show 1075=K+1 by omega,Nat.pow_succ,←Nat.mul_assoc,Nat.mul_comm 2]) h
 rw[this];exact⟨a2,a3⟩
theorem qmY (D r:Nat) (hD:D<2^102) (h:qbm (D*2^1075) 1 r):r<INF:=by
 obtain⟨h1,_,h3⟩:=h;apply Nat.lt_of_not_le;intro hge;have e:r=INF:=by omega
 obtain⟨h4,_⟩:=h3 (by rw[e];decide);rw[e,Nat.mul_one] at h4;obtain⟨K,hK⟩: ∃K:Nat,K=1075:=⟨_,rfl⟩;rw[←hK] at h4;have e1:ex (INF - 1)=2046:=by decide+kernel
 have h5:2^102*2^K≤M (INF - 1):=by
  unfold M;rw[e1,←Nat.pow_add];exact Nat.le_trans (Nat.pow_le_pow_right (n:=2) (by omega) (show 102+K≤2046 - 1 by omega)) (Nat.le_mul_of_pos_left _ (by omega))
 have h6:D*2^K<2^102*2^K:=Nat.mul_lt_mul_of_pos_right hD (Nat.two_pow_pos _);exact absurd (Nat.lt_of_lt_of_le h6 h5) (Nat.not_lt.2 h4)
theorem qmG (neg:Bool) (r:Nat) (hr:r<INF) (h1:(FloatKind.f64.format.order (sgw neg+r) 4831355200913801216==some .gt)=false) (h2:(FloatKind.f64.format.order (sgw neg+r) 14054727237768577024==some .lt)=false):r≤4831355200913801216:=by
 obtain⟨o1,o2⟩:=qlE r 4831355200913801216 hr (by decide);apply Nat.le_of_not_lt;intro hlt;have hV:=qlv hlt;cases neg
 ·rw[show sgw false+r=r from Nat.zero_add r,o1] at h1
  have:compare (V r:Int) (V 4831355200913801216:Int)= .gt:=by
   simp only[compare,compareOfLessAndEq];rw[if_neg (by omega),if_neg (by omega)]
  rw[this] at h1;exact absurd h1 (by decide)
 ·rw[show sgw true+r=9223372036854775808+r from rfl,show(14054727237768577024:Nat)=9223372036854775808+4831355200913801216 from rfl,o2] at h2
  have:compare (-(V r:Int)) (-(V 4831355200913801216:Int))= .lt:=by
   simp only[compare,compareOfLessAndEq];rw[if_pos (by omega)]
  rw[this] at h2;exact absurd h2 (by decide)
structure qeO (w:World):Prop where
 tab:qqJ w
 opt:w.cell? ⟨10,0,none⟩=some (.bool true)
 i0:w.cell? ⟨11,0,none⟩=some (.int .u64 52)
 i1:w.cell? ⟨11,1,none⟩=some (.int .u64 11)
 i2:w.cell? ⟨11,2,none⟩=some (.int .i64 (-1023))
 pow: ∃b off cap,w.cell? ⟨14,0,none⟩=some (.slice (some ⟨b,off,none⟩) 23 cap)∧b<w.heap.size∧ ∀k,k<23→w.cell? ⟨b,off+k,none⟩=some (.float .f64 (f10 k))
 big:16<w.heap.size
 pt:PtP w
 lc:LcP w
theorem qeO.on {w W:World} (h:qeO w) (hb:Below w.heap.size w W):qeO W:=by
 have c: ∀b o,b<w.heap.size→W.cell? ⟨b,o,none⟩=w.cell? ⟨b,o,none⟩:=fun b o hl=>hb.cell (p:=⟨b,o,none⟩) hl
 have hz:=h.big;obtain⟨b,off,cap,p1,p2,p3⟩:=h.pow;refine⟨fun i hi=>?_,?_,?_,?_,?_,⟨b,off,cap,?_,Nat.lt_of_lt_of_le p2 hb.size,fun k hk=>?_⟩,Nat.lt_of_lt_of_le hz hb.size,h.pt.on (Nat.le_refl _) hb,h.lc.on (Nat.le_refl _) hb⟩
 ·rw[c _ _ (by omega),c _ _ (by omega)];exact h.tab i hi
 ·rw[c _ _ (by omega)];exact h.opt
 ·rw[c _ _ (by omega)];exact h.i0
 ·rw[c _ _ (by omega)];exact h.i1
 ·rw[c _ _ (by omega)];exact h.i2
 ·rw[c _ _ (by omega)];exact p1
 ·rw[c _ _ p2];exact p3 k hk
def kindN (v:Nat):Nat:=if v/4503599627370496%2048=2047 then (if v%4503599627370496=0 then 3 else 4) else if 0<v/4503599627370496%2048 then 2 else if 0<v%4503599627370496 then 1 else 0
theorem qfD (v:Nat) (hv:v<18446744073709551616) (w:World):Calls Tryz.prog 62 #[.int .u64 v] w fun e w'=>e= .returned (.tuple #[.int .i64 ((v/4503599627370496%2048:Nat):Int),.int .u64 ((v%4503599627370496:Nat):Int)])∧w=w':=by
 have b1:bits .and .u64 ((v:Int)/4503599627370496) 2047=((v/4503599627370496%2048:Nat):Int):=by
  have:=u64_and_nat (v/4503599627370496) 2047 (by omega) (by decide);rw[show((v:Int)/4503599627370496)=((v/4503599627370496:Nat):Int) by omega];refine Eq.trans this ?_;rw[show(2047:Nat)=2^11 - 1 from rfl,Nat.and_two_pow_sub_one_eq_mod]
 have b2:bits .and .u64 (v:Int) 4503599627370495=((v%4503599627370496:Nat):Int):=by
  have:=u64_and_nat v 4503599627370495 hv (by decide);refine Eq.trans this ?_;rw[show(4503599627370495:Nat)=2^52 - 1 from rfl,Nat.and_two_pow_sub_one_eq_mod]
 obtain⟨x,hx⟩: ∃x,x=v/4503599627370496%2048:=⟨_,rfl⟩;obtain⟨y,hy⟩: ∃y,y=v%4503599627370496:=⟨_,rfl⟩;rw[←hx] at b1⊢;rw[←hy] at b2⊢;have hx2:x<2048:=by omega
 clear hx hy;go_enter Tryz.func62,Tryz.ntmps62;go_wp2;go_ret2;exact⟨rfl,rfl⟩
theorem qfA (v:Nat) (hv:v<18446744073709551616) (w:World):Calls Tryz.prog 45 #[.int .u64 v] w fun e w'=>e= .returned (.int .u8 ((kindN v:Nat):Int))∧w=w':=by
 have c:=Lh (qfD v hv w);unfold kindN;obtain⟨x,hx⟩: ∃x,x=v/4503599627370496%2048:=⟨_,rfl⟩;obtain⟨y,hy⟩: ∃y,y=v%4503599627370496:=⟨_,rfl⟩;rw[←hx,←hy] at c⊢;clear hx hy
 by_cases g1:x=2047
 ·have u1:((x:Int)==2047)=true:=by simp[g1]
  by_cases g2:y=0
  ·have u2:((y:Int)==0)=true:=by simp[g2]
   rw[if_pos g1,if_pos g2];clear g1 g2;go_enter Tryz.func45,Tryz.ntmps45;go_wp2_with fail;refine c.out.mono ?_;rintro z w1 ⟨rfl,rfl⟩;go_wp2_with fail;go_ret;exact⟨rfl,rfl⟩
  ·have u2:((y:Int)==0)=false:=by simp[g2]
   rw[if_pos g1,if_neg g2];clear g1 g2;go_enter Tryz.func45,Tryz.ntmps45;go_wp2_with fail;refine c.out.mono ?_;rintro z w1 ⟨rfl,rfl⟩;go_wp2_with fail;go_ret;exact⟨rfl,rfl⟩
 ·have u1:((x:Int)==2047)=false:=by simp;omega
  rw[if_neg g1]
  by_cases g2:0<x
  ·have u2:decide ((0:Int)<(x:Int))=true:=dT (by omega);have u2':decide (0<x)=true:=dT g2;rw[if_pos g2];clear g1;go_enter Tryz.func45,Tryz.ntmps45;go_wp2_with fail;refine c.out.mono ?_;rintro z w1 ⟨rfl,rfl⟩;go_wp2_with fail;go_ret;exact⟨rfl,rfl⟩
  ·have u2:decide ((0:Int)<(x:Int))=false:=dF (by omega);have u2':decide (0<x)=false:=dF g2;rw[if_neg g2]
   by_cases g3:0<y
   ·have u3:decide ((0:Int)<(y:Int))=true:=dT (by omega);have u3':decide (0<y)=true:=dT g3;rw[if_pos g3];clear g1 g2;go_enter Tryz.func45,Tryz.ntmps45;go_wp2_with fail;refine c.out.mono ?_;rintro z w1 ⟨rfl,rfl⟩;go_wp2_with fail;go_ret;exact⟨rfl,rfl⟩
   ·have u3:decide ((0:Int)<(y:Int))=false:=dF (by omega);have u3':decide (0<y)=false:=dF g3;rw[if_neg g3];clear g1 g2 g3;go_enter Tryz.func45,Tryz.ntmps45;go_wp2_with fail;refine c.out.mono ?_;rintro z w1 ⟨rfl,rfl⟩;go_wp2_with fail;go_ret;exact⟨rfl,rfl⟩
theorem qmo (a:Nat) (ha:a<18446744073709551616):(FloatKind.f64.format.order a a !=some .eq)=qdU a:=by
 have:FloatKind.f64.format.order a a=_:=qgu a a ha ha;rw[this];cases qdU a
 ·rw[Bool.or_self,if_neg (by decide),cmp_eq rfl];rfl
 ·rw[Bool.or_self,if_pos rfl];rfl
end Go.Proofs.YtdeimnnpcfncpaaGreatDoor
end
section
namespace Go.Proofs.YtdeimnnpcfncpaaGreatDoor
open Go Go.RowKit Ieee
theorem qpW (v:Nat) (hv:v<18446744073709551616):bits .and .u64 (v:Int) 9223372036854775808=if 9223372036854775808≤v then 9223372036854775808 else 0:=by
 refine Eq.trans (u64_and_nat v 9223372036854775808 hv (by decide)) ?_;have:=qfg v 63;rw[show(2:Nat)^63=9223372036854775808 from rfl] at this;rw[this]
 split
 ·rw[show v/9223372036854775808=1 by omega];rfl
 ·rw[show v/9223372036854775808=0 by omega];rfl
end Go.Proofs.YtdeimnnpcfncpaaGreatDoor
end
section
namespace Go.Proofs.YtdeimnnpcfncpaaGreatDoor
open Go Go.RowKit Go.Sort Go.Lib
theorem qmF (w:World) (o:Obj) (off:Nat) (dk:Array UInt8) (k:Nat): ∃os,(putRow (fun (b:UInt8)=>Value.int .u8 (b.toNat:Int)) (w.alloc o) w.heap.size off dk).drewN k=grow (w.drewN k) os:=by
 rw[alloc_eq_grow];obtain⟨os',_,e⟩:=putRow_grow_new (fun (b:UInt8)=>Value.int .u8 (b.toNat:Int)) w #[o] w.heap.size off dk (Nat.le_refl _);exact⟨os',by rw[e];rfl⟩
theorem qqr (u:Nat) (hu64:u<18446744073709551616) (w:World) (htab:Lib.TabIs Tryz.prog w "internal/strconv.uint64pow10" .u64 Lib.pow10Tab):
 Calls Tryz.prog 120 #[.int .u64 u,.int .i64 10] w fun e w'=>e= .returned (.string ⟨(Lib.decDigits u).toArray⟩)∧ ∃k os,w'=grow (w.drewN k) os:=by
 by_cases hs:u<100
 ·have hc:=Lh (Tryz.internal_strconv_small u hs w);have u1:decide ((u:Int)<100)=true:=dT (by omega);have u1':decide (u<100)=true:=dT hs;go_enter Tryz.func120,Tryz.ntmps120;go_wp2_with fail;refine hc.out.mono ?_;rintro e w' ⟨rfl,rfl⟩;go_wp2_with fail;go_ret;exact⟨rfl,0,#[],by simp[World.drewN_zero]⟩
 ·have u1:decide ((u:Int)<100)=false:=dF (by omega);have u1':decide (u<100)=false:=dF hs;have hu1:1≤u:=by omega
  have hnd20:Lib.nDigits u≤20:=by have:=Lib.numDigits_eq u hu1 hu64;split at this<;>omega
  have hal:Tryz.prog.arrayLen 227=24:=by kernel_rfl
  have hsl1: ∀W,(Instr.sliceAt 227 (.pointer (some ⟨w.heap.size,0,none⟩)) none (some (.int .i64 (Lib.nDigits u:Int))) none).run Tryz.prog W= .ok (.slice (some ⟨w.heap.size,0,none⟩) (Lib.nDigits u) 24) W:=fun W=>by
   rw[run_sliceAt_array_h W 227 ⟨w.heap.size,0,none⟩ (by simp[Program.arrayLen,Program.elem,Tryz.underlying227]) .i64 (Lib.nDigits u:Int) (by omega) (by rw[hal];omega)];go_simp
  have hH0:=Lib.holds_zero0 w 227 (Lib.nDigits u) (by omega);have hfmt:=Tryz.internal_strconv_formatBase10 w.heap.size 0 24 u (Array.replicate (Lib.nDigits u) 0) (w.alloc (.cells Lib.zeros24 227)) hH0 (by rw[Array.size_replicate];exact Lib.lt_pow_nDigits u) hu64 (by rw[Array.size_replicate];omega);rw[Array.size_replicate] at hfmt;have HH0:=Lh hH0;have HF:=Lh hfmt;have HN:=Lh (Tryz.internal_strconv_numDigits u hu1 hu64 (w.alloc (.cells Lib.zeros24 227)) (Lib.tabIs_alloc htab _));clear hH0 hal hfmt hs;go_enter Tryz.func120,Tryz.ntmps120;go_wp2_with fail;refine HN.out.mono ?_;rintro e w' ⟨rfl,rfl⟩;go_wp2_with fail;refine HF.out.mono ?_;rintro e w' ⟨rfl,k,v',dk,rfl,hF⟩
  have hcv:(convert 78 9 (.slice (some ⟨w.heap.size,0,none⟩) (Lib.nDigits u) 24)).run Tryz.prog ((putRow (fun (b:UInt8)=>Value.int .u8 (b.toNat:Int)) (w.alloc (.cells Lib.zeros24 227)) w.heap.size 0 dk).drewN k)= .ok (.string ⟨(Lib.decDigits u).toArray⟩) ((putRow (fun (b:UInt8)=>Value.int .u8 (b.toNat:Int)) (w.alloc (.cells Lib.zeros24 227)) w.heap.size 0 dk).drewN k):=by
   have h:=run_convert_bytes_back (P:=Tryz.prog) ((putRow (fun (b:UInt8)=>Value.int .u8 (b.toNat:Int)) (w.alloc (.cells Lib.zeros24 227)) w.heap.size 0 dk).drewN k) 78 9 5 ⟨w.heap.size,0,none⟩ 24 (Lib.decDigits u) Tryz.underlying78 Tryz.underlying5 Tryz.underlying9 (fun j hj=>by
    rw[Lib.row_is_numeral hF j hj,Lib.add_plain,World.cell?_drewN]
    exact cell?_putRow (fun (b:UInt8)=>Value.int .u8 (b.toNat:Int)) _ w.heap.size 0 _ dk HH0.out (by rw[hF.size,Array.size_replicate]) j (by rw[hF.size];rw[Lib.decDigits_length] at hj;exact hj))
   rw[Lib.decDigits_length] at h;exact h
  go_wp2_with fail;go_ret;obtain⟨os,eo⟩:=qmF w (.cells Lib.zeros24 227) 0 dk k;exact⟨rfl,k,os,eo⟩
theorem qtf (u:Nat) (hu64:u<18446744073709551616) (w:World) (htab:Lib.TabIs Tryz.prog w "internal/strconv.uint64pow10" .u64 Lib.pow10Tab):
 Calls Tryz.prog 63 #[.int .u64 u,.int .i64 10] w fun e w'=>e= .returned (.string ⟨(Lib.decDigits u).toArray⟩)∧Below w.heap.size w w':=by
 have hc:=Lh (qqr u hu64 w htab);go_enter Tryz.func63,Tryz.ntmps63;go_wp2_with fail;refine hc.out.mono ?_;rintro e w' ⟨rfl,k,os,rfl⟩;have hb:=Lh (Lib.below_grow _ w (Nat.le_refl _) k os);go_wp2_with fail;go_ret;exact⟨rfl,hb.out⟩
end Go.Proofs.YtdeimnnpcfncpaaGreatDoor
end
