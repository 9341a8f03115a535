/- Parts of the proof: LK1 LK2 LK3 LK5 LK6 LK7 LK9. -/
import Derived.OwnWalk
import Derived.Deep.DeepMust
import Derived.Laws.Bits128
import Derived.WalkMore
import Derived.Laws.NewBlocks
import Derived.RangeFuncRecord
import Derived.Lib.OthersKept
import Derived.Lib.FrozenHead2
import Derived.BigQuiet
import Derived.Deep.LoopGhost
import Derived.Deep.CutRange
import Derived.Deep.DeepCutAuto
import Derived.Shelf.Strings.SlTrimAscii
import Derived.Test.YtdeimnnpcfncpaaGreatDoorCY02
import Derived.Test.YtdeimnnpcfncpaaGreatDoorCY03
import Derived.Test.YtdeimnnpcfncpaaGreatDoorCY00
set_option linter.unusedVariables false
set_option linter.unusedSimpArgs false
set_option maxRecDepth 100000
set_option maxHeartbeats 64000000
namespace Go.Proofs.YtdeimnnpcfncpaaGreatDoor.L
open Go.RowKit
def hdn (c:Int):Nat:=if c<128 then 1 else if c<194 then 0 else if c<224 then 2 else if c<240 then 3 else if c<245 then 4 else 0
def hdx (c:Int):Int:=if c<128 then c else if c<194 then 0 else if c<224 then c%32 else if c<240 then c%16 else if c<245 then c%8 else 0
theorem qmA (c:Int) (h0:0≤c) (h1:c<256) (w:World):
 Calls Tryz.prog 271 #[.int .u8 c] w fun e w'=>e= .returned (.tuple #[.int .i64 (hdn c),.int .i64 (hdx c)])∧w=w':=by
 have b31:=u8_and31 (h₀:=h0) (h₁:=h1);have b15:=u8_and15 (h₀:=h0) (h₁:=h1);have b7:=u8_and7 (h₀:=h0) (h₁:=h1);rcases(show c<128∨(128≤c∧c<194)∨(194≤c∧c<224)∨(224≤c∧c<240)∨(240≤c∧c<245)∨245≤c by omega)with g|⟨g,g2⟩|⟨g,g2⟩|⟨g,g2⟩|⟨g,g2⟩|g
 ·rw[show hdn c=1 by unfold hdn;(repeat' split)<;>omega,show hdx c=c by unfold hdx;omega];have t1:decide (c<128)=true:=dT (by omega);go_enter Tryz.func271,Tryz.ntmps271;go_wp2_with fail;go_ret2;exact⟨rfl,rfl⟩
 ·rw[show hdn c=0 by unfold hdn;(repeat' split)<;>omega,show hdx c=0 by unfold hdx;omega];have t1:decide (c<128)=false:=dF (by omega);have t2:decide (194≤c)=false:=dF (by omega);have t3:decide (224≤c)=false:=dF (by omega);have t4:decide (240≤c)=false:=dF (by omega);go_enter Tryz.func271,Tryz.ntmps271;go_wp2_with fail;go_ret2;exact⟨rfl,rfl⟩
 ·rw[show hdn c=2 by unfold hdn;(repeat' split)<;>omega,show hdx c=c%32 by unfold hdx;omega];have t1:decide (c<128)=false:=dF (by omega);have t2:decide (194≤c)=true:=dT (by omega);have t3:decide (c<224)=true:=dT (by omega);go_enter Tryz.func271,Tryz.ntmps271;go_wp2_with fail;go_ret2;exact⟨rfl,rfl⟩
 ·rw[show hdn c=3 by unfold hdn;(repeat' split)<;>omega,show hdx c=c%16 by unfold hdx;omega];have t1:decide (c<128)=false:=dF (by omega);have t2:decide (194≤c)=true:=dT (by omega);have t3:decide (c<224)=false:=dF (by omega);have t4:decide (224≤c)=true:=dT (by omega);have t5:decide (c<240)=true:=dT (by omega);go_enter Tryz.func271,Tryz.ntmps271;go_wp2_with fail;go_ret2;exact⟨rfl,rfl⟩
 ·rw[show hdn c=4 by unfold hdn;(repeat' split)<;>omega,show hdx c=c%8 by unfold hdx;omega];have t1:decide (c<128)=false:=dF (by omega);have t2:decide (194≤c)=true:=dT (by omega);have t3:decide (c<224)=false:=dF (by omega);have t4:decide (224≤c)=true:=dT (by omega);have t5:decide (c<240)=false:=dF (by omega);have t6:decide (240≤c)=true:=dT (by omega);have t7:decide (c<245)=true:=dT (by omega);go_enter Tryz.func271,Tryz.ntmps271;go_wp2_with fail;go_ret2;exact⟨rfl,rfl⟩
 ·rw[show hdn c=0 by unfold hdn;(repeat' split)<;>omega,show hdx c=0 by unfold hdx;omega];have t1:decide (c<128)=false:=dF (by omega);have t2:decide (194≤c)=true:=dT (by omega);have t3:decide (c<224)=false:=dF (by omega);have t4:decide (224≤c)=true:=dT (by omega);have t5:decide (c<240)=false:=dF (by omega);have t6:decide (240≤c)=true:=dT (by omega);have t7:decide (c<245)=false:=dF (by omega);go_enter Tryz.func271,Tryz.ntmps271;go_wp2_with fail;go_ret2;exact⟨rfl,rfl⟩
def sec (f c:Int):Bool:=if c<128∨192≤c then false else if f=224 then decide (160≤c) else if f=237 then decide (c<160) else if f=240 then decide (144≤c) else if f=244 then decide (c<144) else true
theorem qiy (f c:Int) (w:World):
 Calls Tryz.prog 272 #[.int .u8 f,.int .u8 c] w fun e w'=>e= .returned (.bool (sec f c))∧w=w':=by
 by_cases h1:c<128∨192≤c
 ·rw[show sec f c=false by unfold sec;rw[if_pos h1]]
  by_cases h2:c<128
  ·have t1:decide (c<128)=true:=dT h2;go_enter Tryz.func272,Tryz.ntmps272;go_wp2_with fail;go_ret;exact⟨rfl,rfl⟩
  ·have t1:decide (c<128)=false:=dF h2;have t2:decide (192≤c)=true:=dT (by omega);go_enter Tryz.func272,Tryz.ntmps272;go_wp2_with fail;go_ret;exact⟨rfl,rfl⟩
 ·have t1:decide (c<128)=false:=dF (by omega);have t2:decide (192≤c)=false:=dF (by omega)
  by_cases e1:f=224
  ·subst e1;rw[show sec 224 c=decide (160≤c) by unfold sec;rw[if_neg h1];rfl];go_enter Tryz.func272,Tryz.ntmps272;go_wp2_with fail;go_ret;exact⟨rfl,rfl⟩
  ·by_cases e2:f=237
   ·subst e2;rw[show sec 237 c=decide (c<160) by unfold sec;rw[if_neg h1];rfl];go_enter Tryz.func272,Tryz.ntmps272;go_wp2_with fail;go_ret;exact⟨rfl,rfl⟩
   ·by_cases e3:f=240
    ·subst e3;rw[show sec 240 c=decide (144≤c) by unfold sec;rw[if_neg h1];rfl];go_enter Tryz.func272,Tryz.ntmps272;go_wp2_with fail;go_ret;exact⟨rfl,rfl⟩
    ·by_cases e4:f=244
     ·subst e4;rw[show sec 244 c=decide (c<144) by unfold sec;rw[if_neg h1];rfl];go_enter Tryz.func272,Tryz.ntmps272;go_wp2_with fail;go_ret;exact⟨rfl,rfl⟩
     ·rw[show sec f c=true by unfold sec;rw[if_neg h1,if_neg e1,if_neg e2,if_neg e3,if_neg e4]];have q1:(f==224)=false:=by simpa using e1
      have q2:(f==237)=false:=by simpa using e2
      have q3:(f==240)=false:=by simpa using e3
      have q4:(f==244)=false:=by simpa using e4
      go_enter Tryz.func272,Tryz.ntmps272;go_wp2_with fail;go_ret;exact⟨rfl,rfl⟩
def byt (s:ByteArray) (k:Nat):Int:=((s.data.toList.getD k 0).toNat:Int)
theorem qde (s:ByteArray) (k:Nat) (h:k<s.size):((s[k]'h).toNat:Int)=byt s k:=by
 have h':k<s.data.toList.length:=by simpa using h
 unfold byt;rw[List.getD_eq_getElem?_getD,List.getElem?_eq_getElem h',Option.getD_some];rfl
theorem qk6 (s:ByteArray) (k:Nat):0≤byt s k:=Int.natCast_nonneg _
theorem qnZ (s:ByteArray) (k:Nat):byt s k<256:=by unfold byt;have:=(s.data.toList.getD k 0).toNat_lt;omega
def qdt (s:ByteArray) (at' i:Nat):Bool:=(i==1&&!sec (byt s at') (byt s (at'+i)))||decide (byt s (at'+i)<128)||decide (192≤byt s (at'+i))
def rdl (s:ByteArray) (at' n i:Nat) (x:Int):Int×Int×Int:=
 if i<n then if at'+i<s.size then if qdt s at' i then (0,0,11) else rdl s at' n (i+1) (x*64+byt s (at'+i)%64) else (0,0,10) else (x,(n:Int),0)
termination_by n - i
def rd (s:ByteArray) (at':Int):Int×Int×Int:=
 if at'<0∨(s.size:Int)<at' then (0,0,2) else if at'=s.size then (0,0,6) else if hdn (byt s at'.toNat)=0 then (0,0,11) else rdl s at'.toNat (hdn (byt s at'.toNat)) 1 (hdx (byt s at'.toNat))
theorem qoo (c:Int):hdn c≤4:=by unfold hdn;(repeat' split)<;>omega
theorem qqR (c:Int) (h:0≤c):0≤hdx c:=by unfold hdx;omega
theorem qqT (c:Int):hdx c<128:=by unfold hdx;omega
theorem qo1 (x y:Int) (h0:0≤x) (h1:x<72057594037927936) (h2:0≤y) (h3:y<64):bits .or .i64 (x*64) y=x*64+y:=
 bits_join .i64 63 (by decide) (fun n h h'=>by rw[IntKind.wrap_i64];omega) 6 (x*64) y (by omega) (by omega) (by omega) h2 (by omega) (by omega)
theorem qkA (s:ByteArray) (k n i:Nat) (x:Int) (h: ¬i<n):rdl s k n i x=(x,(n:Int),0):=by rw[rdl,if_neg h]
theorem qge (s:ByteArray) (k n i:Nat) (x:Int) (h:i<n) (h2: ¬k+i<s.size):rdl s k n i x=(0,0,10):=by rw[rdl,if_pos h,if_neg h2]
theorem qgH (s:ByteArray) (k n i:Nat) (x:Int) (h:i<n) (h2:k+i<s.size) (h3:qdt s k i=true):rdl s k n i x=(0,0,11):=by rw[rdl,if_pos h,if_pos h2,if_pos h3]
theorem qfx (s:ByteArray) (k n i:Nat) (x:Int) (h:i<n) (h2:k+i<s.size) (h3:qdt s k i=false):rdl s k n i x=rdl s k n (i+1) (x*64+byt s (k+i)%64):=by rw[rdl,if_pos h,if_pos h2,if_neg (by simp[h3])]
theorem qp3 (c:Int) (h0:0≤c) (h1:c<256) (n:Nat) (x:Int) (hn:n=hdn c) (hx:x=hdx c) (w:World):
 Calls Tryz.prog 271 #[.int .u8 c] w fun e w'=>e= .returned (.tuple #[.int .i64 n,.int .i64 x])∧w=w':=by
 rw[hn,hx];exact qmA c h0 h1 w
theorem qfS (f c:Int) (b:Bool) (h:b=sec f c) (w:World):Calls Tryz.prog 272 #[.int .u8 f,.int .u8 c] w fun e w'=>e= .returned (.bool b)∧w=w':=by
 rw[h];exact qiy f c w
theorem qm8 (s:ByteArray) (hs:s.size≤4611686018427387904) (at':Int) (w:World):
 Calls Tryz.prog 257 #[.string s,.int .i64 at'] w fun e w'=>e= .returned (.tuple #[.int .i64 (rd s at').1,.int .i64 (rd s at').2.1,.int .i64 (rd s at').2.2])∧w=w':=by
 by_cases c1:at'<0∨(s.size:Int)<at'
 ·have hr:rd s at'=(0,0,2):=by unfold rd;rw[if_pos c1]
  rw[hr];clear hr
  by_cases c2:at'<0
  ·have t1:decide (at'<0)=true:=dT c2;go_enter Tryz.func257,Tryz.ntmps257;go_wp2_with fail;go_ret3;exact⟨rfl,rfl⟩
  ·have t1:decide (at'<0)=false:=dF c2;have t2:decide ((s.size:Int)<at')=true:=dT (by omega);go_enter Tryz.func257,Tryz.ntmps257;go_wp2_with fail;go_ret3;exact⟨rfl,rfl⟩
 ·obtain⟨k,rfl⟩:=Int.eq_ofNat_of_zero_le (show 0≤at' by omega);have t1:decide ((k:Int)<0)=false:=dF (by omega);have t2:decide ((s.size:Int)<(k:Int))=false:=dF (by omega)
  by_cases c2:k=s.size
  ·subst c2;have hr:rd s s.size=(0,0,6):=by unfold rd;rw[if_neg c1,if_pos rfl]
   rw[hr];clear hr;go_enter Tryz.func257,Tryz.ntmps257;go_wp2_with fail;go_ret3;exact⟨rfl,rfl⟩
  ·have hlt:k<s.size:=by omega
   have t3:((k:Int)==(s.size:Int))=false:=by simp;omega
   have hr:rd s k=if hdn (byt s k)=0 then (0,0,11) else rdl s k (hdn (byt s k)) 1 (hdx (byt s k)):=by
    unfold rd;rw[if_neg c1,if_neg (by omega)];rfl
   have hB:=qde s k hlt;obtain⟨n,hn⟩: ∃n,n=hdn (byt s k):=⟨_,rfl⟩;obtain⟨x0,hx0⟩: ∃x,x=hdx (byt s k):=⟨_,rfl⟩;have hn4:n≤4:=by rw[hn];exact qoo _
   have hxl:0≤x0:=by rw[hx0];exact qqR _ (qk6 s k)
   have hxh:x0<128:=by rw[hx0];exact qqT _
   have h0:=qk6 s k;have h1:=qnZ s k;rw[←hn,←hx0] at hr;replace hn:=Lh hn;replace hx0:=Lh hx0;have hhead:=qp3 (byt s k) h0 h1 n x0 hn.out hx0.out w;clear hn hx0 c1
   by_cases c3:n=0
   ·subst c3;rw[if_pos rfl] at hr;rw[hr];clear hr;replace hhead:=Lh hhead;go_enter Tryz.func257,Tryz.ntmps257;go_wp2_with fail;refine hhead.out.mono ?_;rintro e w1 ⟨rfl,rfl⟩;go_wp2_with fail;go_ret3;exact⟨rfl,rfl⟩
   ·rw[if_neg c3] at hr;obtain⟨R,hR⟩: ∃R,R=rd s k:=⟨_,rfl⟩;rw[←hR] at hr⊢;replace hr:=Lh hr;clear hR;have t4:((n:Int)==0)=false:=by simpa using c3
    replace hhead:=Lh hhead;go_enter Tryz.func257,Tryz.ntmps257;go_wp2_with fail;refine hhead.out.mono ?_;rintro e w1 ⟨rfl,rfl⟩;clear hhead;go_wp2_with fail;go_loop [8,9] (fun sx si=> ∃(i:Nat) (x:Int),1≤i∧i≤n∧k+i≤s.size∧sx= .int .i64 x∧si= .int .i64 i∧0≤x∧(i=1∧x<128∨i=2∧x<8192∨i=3∧x<524288∨i=4∧x<33554432)∧Hid (rdl s k n i x=R)) (fun _ i=>n - (intOf i).toNat)
    case atStart=>exact⟨1,x0,by omega,by omega,by omega,rfl,rfl,hxl,.inl ⟨rfl,hxh⟩,hr.out.symm⟩
    case round=>
     obtain⟨i,x,hi1,hin,hks,rfl,rfl,hx1,hx2,hrl⟩:=hrel
     by_cases hi:i<n
     ·by_cases hlen:k+i<s.size
      ·have hB2:=qde s (k+i) hlen;have g0:=qk6 s (k+i);have g1:=qnZ s (k+i);have hxb:x<33554432:=by omega
       have t5:((k:Int)+(i:Int)==(s.size:Int))=false:=by simp;omega
       have hor:=qo1 x (byt s (k+i)%64) hx1 (by omega) (by omega) (by omega);have hand:=u8_and63 (h₀:=g0) (h₁:=g1);obtain⟨c,hc⟩: ∃c,c=byt s (k+i):=⟨_,rfl⟩;rw[←hc] at hB2 g0 g1 hor hand;replace hc:=Lh hc;have ti:decide ((i:Int)<n)=true:=dT (by omega)
       by_cases hi':i=1
       ·subst hi';have t5':((k:Int)+1==(s.size:Int))=false:=by simp;omega
        have ti':decide ((1:Int)<n)=true:=dT (by omega);clear t5 ti;rw[show((1:Nat):Int)=1 from rfl];obtain⟨b,hb⟩: ∃b,Hid (b=sec (byt s k) c):=⟨_,rfl⟩;cases b
        ·have hbad:qdt s k 1=true:=by
          unfold qdt;rw[←hc.out,←hb.out];simp
         have:=qgH s k n 1 x hi hlen hbad;rw[hrl.out] at this;subst this;clear hbad;go_wp2_with fail;refine(qfS _ _ false hb.out _).mono ?_;rintro e w1 ⟨rfl,rfl⟩;go_wp2_with fail;go_ret3;exact⟨rfl,rfl⟩
        ·have hr2: ¬(c<128∨192≤c):=by
          intro h;have h2:=hb.out;unfold sec at h2;rw[if_pos h] at h2;cases h2
         have s1:decide (c<128)=false:=dF (by omega);have s2:decide (192≤c)=false:=dF (by omega)
         have hbad:qdt s k 1=false:=by
          unfold qdt;rw[←hc.out,←hb.out,s1,s2];rfl
         have hnext:=qfx s k n 1 x hi hlen hbad;rw[hrl.out,←hc.out] at hnext;replace hnext:=Lh hnext;clear hbad hr2;go_wp2_with fail;refine(qfS _ _ true hb.out _).mono ?_;rintro e w1 ⟨rfl,rfl⟩;go_wp2_with fail;go_round
         case rel=>exact⟨2,x*64+c%64,by omega,by omega,by omega,rfl,rfl,by omega,by omega,hnext.out.symm⟩
         case measure=>simp[intOf];omega
       ·have t6:((i:Int)==1)=false:=by simp;omega
        by_cases hr2:c<128∨192≤c
        ·have hbad:qdt s k i=true:=by
          unfold qdt;rw[←hc.out];rcases hr2 with h|h
          ·simp[h]
          ·simp[h]
         have:=qgH s k n i x hi hlen hbad;rw[hrl.out] at this;subst this;clear hbad
         by_cases hr3:c<128
         ·have s1:decide (c<128)=true:=dT hr3;go_wp2_with fail;go_ret3;exact⟨rfl,rfl⟩
         ·have s1:decide (c<128)=false:=dF hr3;have s2:decide (192≤c)=true:=dT (by omega);go_wp2_with fail;go_ret3;exact⟨rfl,rfl⟩
        ·have s1:decide (c<128)=false:=dF (by omega);have s2:decide (192≤c)=false:=dF (by omega)
         have hbad:qdt s k i=false:=by
          unfold qdt;rw[←hc.out,s1,s2];simp[hi']
         have hnext:=qfx s k n i x hi hlen hbad;rw[hrl.out,←hc.out] at hnext;replace hnext:=Lh hnext;clear hbad hr2;go_wp2_with fail;go_round
         case rel=>exact⟨i+1,x*64+c%64,by omega,by omega,by omega,rfl,by go_num,by omega,by omega,hnext.out.symm⟩
         case measure=>simp[intOf];omega
      ·have:=qge s k n i x hi hlen;rw[hrl.out] at this;subst this;have t5:((k:Int)+(i:Int)==(s.size:Int))=true:=by simp;omega
       have ti:decide ((i:Int)<n)=true:=dT (by omega);go_wp2_with fail;go_ret3;exact⟨rfl,rfl⟩
     ·obtain rfl:i=n:=by omega
      have:=qkA s k i i x (by omega);rw[hrl.out] at this;subst this;go_wp2_with fail;go_ret3;exact⟨rfl,rfl⟩
theorem qrF (s:ByteArray) (k n:Nat): ∀(m i:Nat) (x:Int),m=n - i→k+i≤s.size→i≤n→(rdl s k n i x).2.2=0→(rdl s k n i x).2.1=n∧k+n≤s.size:=by
 intro m
 induction m with
 |zero=>
  intro i x hm hk hi _;rw[qkA s k n i x (by omega)];exact⟨rfl,by omega⟩
 |succ m ih=>
  intro i x hm hk hi h0;have hlt:i<n:=by omega
  by_cases hs:k+i<s.size
  ·cases hb:qdt s k i with
   |true=>rw[qgH s k n i x hlt hs hb] at h0;cases h0
   |false=>
    rw[qfx s k n i x hlt hs hb] at h0⊢;exact ih (i+1) _ (by omega) (by omega) (by omega) h0
  ·rw[qge s k n i x hlt hs] at h0;cases h0
theorem qtn (s:ByteArray) (k:Nat) (x n e:Int) (h:rd s k=(x,n,e)) (he:e=0):1≤n∧n≤4∧k+n≤s.size:=by
 subst he;unfold rd at h
 by_cases c1:(k:Int)<0∨(s.size:Int)<k
 ·rw[if_pos c1] at h;simp at h
 ·rw[if_neg c1] at h
  by_cases c2:(k:Int)=s.size
  ·rw[if_pos c2] at h;simp at h
  ·rw[if_neg c2] at h
   by_cases c3:hdn (byt s (k:Int).toNat)=0
   ·rw[if_pos c3] at h;simp at h
   ·rw[if_neg c3] at h;have hk:(k:Int).toNat=k:=Int.toNat_natCast k;rw[hk] at h c3;have h1:=qrF s k (hdn (byt s k)) _ 1 (hdx (byt s k)) rfl (by omega) (by omega) (by rw[h]);have h2:n=(hdn (byt s k):Int):=by have:=h1.1;rw[h] at this;exact this
    have h3:=qoo (byt s k);have h4:=h1.2;omega
def ckf (s:ByteArray):Nat→Nat→Int×Int
 |0,k=>((k:Int),0)
 |f+1,k=>if k<s.size then if (rd s k).2.2=0 then ckf s f (k+(rd s k).2.1.toNat) else ((k:Int),(rd s k).2.2) else ((k:Int),0)
def ck (s:ByteArray):Int×Int:=ckf s (s.size+1) 0
theorem ex3 (r:Int×Int×Int): ∃x n e,Hid (r=(x,n,e)):=by obtain⟨x,n,e⟩:=r;exact⟨x,n,e,rfl⟩
theorem ex2 (r:Int×Int): ∃x e,Hid (r=(x,e)):=by obtain⟨x,e⟩:=r;exact⟨x,e,rfl⟩
theorem qcU (s:ByteArray) (hs:s.size≤4611686018427387904) (k x n e:Int) (h:rd s k=(x,n,e)) (w:World):
 Calls Tryz.prog 257 #[.string s,.int .i64 k] w fun e' w'=>e'= .returned (.tuple #[.int .i64 x,.int .i64 n,.int .i64 e])∧w=w':=by
 have:=qm8 s hs k w;rw[h] at this;exact this
theorem qei (s:ByteArray) (hs:s.size≤4611686018427387904) (w:World):
 Calls Tryz.prog 224 #[.string s] w fun e w'=>e= .returned (.tuple #[.int .i64 (ck s).1,.int .i64 (ck s).2])∧w=w':=by
 obtain⟨R,hR⟩: ∃R,Hid (R=ck s):=⟨_,rfl⟩;rw[←hR.out];go_enter Tryz.func224,Tryz.ntmps224;go_wp2_with fail;go_step3;go_wp2_with fail;go_step3;go_wp2_with fail;go_loop [4,5] (fun sk se=> ∃k f:Nat,k≤s.size∧s.size - k<f∧sk= .int .i64 k∧se= .int .i64 0∧Hid (ckf s f k=R)) (fun k _=>s.size - (intOf k).toNat)
 case atStart=>exact⟨0,s.size+1,by omega,by omega,rfl,rfl,hR.out.symm⟩
 case round=>
  obtain⟨k,f,hk,hf,rfl,rfl,hc⟩:=hrel;obtain⟨f,rfl⟩: ∃g,f=g+1:=⟨f - 1,by omega⟩
  by_cases hlt:k<s.size
  ·obtain⟨x,n,e,hr⟩:=ex3 (rd s k);have t1:decide ((k:Int)<s.size)=true:=dT (by omega);have hc':=hc.out;rw[ckf,if_pos hlt,hr.out] at hc'
   by_cases he:e=0
   ·have hn:=qtn s k x n e hr.out he;subst he;rw[if_pos rfl] at hc';replace hc':=Lh hc';go_wp2_with fail;refine(qcU s hs k x n 0 hr.out _).mono ?_;rintro e w1 ⟨rfl,rfl⟩;go_wp2_with fail;go_round
    case rel=>exact⟨k+n.toNat,f,by omega,by omega,by go_num,rfl,hc'.out⟩
    case measure=>simp[intOf];omega
   ·rw[if_neg he] at hc';subst hc';have t2:(e !=0)=true:=by simpa using he
    go_wp2_with fail;refine(qcU s hs k x n e hr.out _).mono ?_;rintro e w1 ⟨rfl,rfl⟩;go_wp2_with fail;rw[Exit.noGoto_ret];go_ret2;exact⟨rfl,rfl⟩
  ·obtain rfl:k=s.size:=by omega
   have hc':=hc.out;rw[ckf,if_neg hlt] at hc';subst hc';go_wp2_with fail;go_ret2;exact⟨rfl,rfl⟩
theorem qlH (s:ByteArray) (hs:s.size≤4611686018427387904) (k e:Int) (h:ck s=(k,e)) (w:World):
 Calls Tryz.prog 224 #[.string s] w fun e' w'=>e'= .returned (.tuple #[.int .i64 k,.int .i64 e])∧w=w':=by
 have:=qei s hs w;rw[h] at this;exact this
theorem valid_any (s:ByteArray) (hs:s.size≤4611686018427387904) (w:World):
 Calls Tryz.prog 169 #[.string s] w fun e w'=>e= .returned (.bool ((ck s).2==0))∧w=w':=by
 obtain⟨k,e,h⟩:=ex2 (ck s);rw[h.out];go_enter Tryz.func169,Tryz.ntmps169;go_wp2_with fail;refine(qlH s hs k e h.out _).mono ?_;rintro e w1 ⟨rfl,rfl⟩;go_wp2_with fail;go_ret;exact⟨rfl,rfl⟩
theorem info5:(Tryz.prog.info? 5).map (fun i=>(i.zero,i.size,i.bytes))=some (some (.int .u8 0),1,1):=by kernel_rfl
theorem qro:(Tryz.prog.info? 80).map (·.size)=some 2:=by kernel_rfl
theorem qpI (b:Nat) (w:World) (hc:w.cell? ⟨b,0,none⟩=some (.pointer (some ⟨b,0,none⟩))):
 Calls Tryz.prog 92 #[.pointer (some ⟨b,0,none⟩)] w fun e w'=>e= .returned (.tuple #[])∧w'=w:=by
 obtain⟨j,hj,_⟩:=Option.map_eq_some_iff.1 qro;go_enter Tryz.func92,Tryz.ntmps92;go_wp2;rw[Lib.run_neq_ptr_same w _ Tryz.underlying77 hj];go_wp2;go_end0;exact⟨rfl,rfl⟩
theorem qm5 (b:Nat) (w:World) (hc:w.cell? ⟨b,0,none⟩=some (.pointer none)) (hs:w.shape? b=some (80,2)) (hf:w.frozen? ⟨b,0,none⟩=false):
 Calls Tryz.prog 92 #[.pointer (some ⟨b,0,none⟩)] w fun e w'=>e= .returned (.tuple #[])∧w'=w.setCell ⟨b,0,none⟩ (.pointer (some ⟨b,0,none⟩)):=by
 obtain⟨j,hj,hjs⟩:=Option.map_eq_some_iff.1 qro;go_enter Tryz.func92,Tryz.ntmps92;go_wp2;rw[Lib.run_to_unsafe w ⟨b,0,none⟩ Tryz.underlying77 Tryz.underlying217 hj (by rw[hjs];decide) hs (Nat.zero_lt_succ 1)];simp only[Result.andThen];rw[Oper.upon_value];go_wp2;rw[run_callFunc_extern Tryz.func161 (by kernel_rfl) (by kernel_rfl) (by kernel_rfl) (e:=Extern.AbiNoEscape.same) (by kernel_rfl)];rw[Lib.run_noEscape];simp only[Result.andThen];rw[Oper.upon_value];go_wp2;rw[Lib.run_from_unsafe w ⟨b,0,none⟩ Tryz.underlying217 Tryz.underlying77 hj hs (by kernel_rfl)];simp only[Result.andThen];rw[Oper.upon_value];go_wp2;go_end0;exact⟨rfl,rfl⟩
abbrev qlx (B b:Nat) (l:List UInt8) (w:World):Prop:=Lib.IsBuilderF 80 5 B b (Lib.byteCells l) w
theorem qrG: ∃i,Tryz.prog.info? 5=some i∧i.zero=some (.int .u8 0)∧i.size=1∧i.bytes=1:=info_parts info5
theorem qtM (B b:Nat) (l:List UInt8) (w:World) (h:qlx B b l w):
 Calls Tryz.prog 92 #[.pointer (some ⟨b,0,none⟩)] w fun e w'=>e= .returned (.tuple #[])∧Lib.BuilderAtF 80 5 B b (.pointer (some ⟨b,0,none⟩)) (Lib.byteCells l) w'∧Below B w w'∧Lib.OthersKept 5 (some b) w w':=by
 rcases h with h|h
 ·refine(qm5 b w h.cell0 h.shape h.frozen0).mono ?_;rintro e w' ⟨rfl,rfl⟩;exact⟨rfl,h.used _,(Below.refl B w).setCell (p:=⟨b,0,none⟩) h.1 _,(Lib.OthersKept.refl _ _ w).setCell ⟨b,0,none⟩ rfl _⟩
 ·refine(qpI b w h.cell0).mono ?_;rintro e w' ⟨rfl,rfl⟩;exact⟨rfl,h,Below.refl _ _,Lib.OthersKept.refl _ _ _⟩
theorem qjS {B b m:Nat} {l p:List UInt8} {v v2:Value} {w w0 w1 w2:World} (hB:B≤b) (h0:w0.heap[b]?=some (.cells #[.pointer (some ⟨b,0,none⟩),v] 80 (0,0))) (hne:v.ownBlock≠some b)
 (h1: ∀k,k<w0.heap.size→w1.heap[k]?=w0.heap[k]?) (hs1:w0.heap.size≤w1.heap.size) (hg:w1.grownBy w2 v.ownBlock) (hb1:Below B w w1) (hk1:Lib.OthersKept 5 (some b) w w1)
 (hown1:w1.ownsRowF B 5 1 v (Lib.byteCells l).length (Lib.byteCells l)) (hm:m=(l++p).length) (hown2:w2.ownsRowF B 5 1 v2 m (Lib.byteCells l++Lib.byteCells p)) (hBs:B≤w1.heap.size):
 (∃a n cap,v2= .slice a n cap)∧w2.heap[b]?=some (.cells #[.pointer (some ⟨b,0,none⟩),v] 80 (0,0))∧qlx B b (l++p) (w2.setCell ⟨b,1,none⟩ v2)∧Below B w (w2.setCell ⟨b,1,none⟩ v2)∧Lib.OthersKept 5 (some b) w (w2.setCell ⟨b,1,none⟩ v2):=by
 have hlt:b<w0.heap.size:=(Array.getElem?_eq_some_iff.1 h0).1
 have hb2:w2.heap[b]?=some (.cells #[.pointer (some ⟨b,0,none⟩),v] 80 (0,0)):=by
  rw[hg.block b (by omega) (fun e=>hne e.symm),h1 b hlt];exact h0
 have hl:Lib.byteCells (l++p)=Lib.byteCells l++Lib.byteCells p:=by simp[Lib.byteCells]
 subst hm;refine⟨?_,hb2,.inr ?_,(hb1.grown hg hBs (fun k hk=>(hown1.lt k hk).1)).setCell (p:=⟨b,1,none⟩) hB _,(hk1.grown hg (Lib.ownsRowF_kind hown1)).setCell ⟨b,1,none⟩ rfl _⟩
 ·rcases hown2.2 with ⟨h0,_⟩|⟨g,cap,cur,fz,hv,_⟩
  ·exact⟨_,_,_,h0⟩
  ·exact⟨_,_,_,hv⟩
 ·refine Lib.BuilderAtF.put (T:=80) (e:=5) hB hb2 (bs':=Lib.byteCells (l++p)) ?_ (by decide);rw[Lib.byteCells_length,hl];exact hown2
theorem qtx (B b:Nat) (l:List UInt8) (c:UInt8) (hl:l.length<1000000) (w:World) (h:qlx B b l w) (hBw:B≤w.heap.size):
 Calls Tryz.prog 99 #[.pointer (some ⟨b,0,none⟩),.int .u8 (c.toNat:Int)] w fun e w'=>e= .returned .nilIface∧qlx B b (l++[c]) w'∧Below B w w'∧Lib.OthersKept 5 (some b) w w':=by
 obtain⟨i0,hi,hz0,hz1,hz2⟩:=qrG;have hcall:=Lh (qtM B b l w h);clear h;go_enter Tryz.func99,Tryz.ntmps99;go_wp2_with fail;refine hcall.out.mono ?_;rintro e w1 ⟨rfl,h1,hb1,hk1⟩;clear hcall;obtain⟨hB,v,hbk,hown0,hne⟩:=h1;have hown:=Lh hown0;have c0:w1.cell? ⟨b,0,none⟩=some (.pointer (some ⟨b,0,none⟩)):=by rw[Lib.cell_of_heap hbk];rfl
 have c1:w1.cell? ⟨b,1,none⟩=some v:=by rw[Lib.cell_of_heap hbk];rfl
 have hsz:=hb1.size;have HBK:=Lh hbk;have HB1:=Lh hb1;have HK1:=Lh hk1;have hlen:Hid ((Lib.byteCells l).length=l.length):=Lib.byteCells_length l;clear hown0 hbk hb1 hk1;go_wp2_with (at_builtin;go_must (refine wpList_append_ownF _ rfl (.tmp 11) (.tmp 13) 78 rfl B 5 i0 (.int .u8 0) 1 1 Tryz.underlying78 hi hz0 hz1 hz2 rfl (by decide) v _ _ rfl (World.ownsRowF.alloc hown.out _) ⟨w1.heap.size,0,none⟩ 1 1 [.int .u8 (c.toNat:Int)] rfl rfl ?c1 ?c2 ?c3 ?c4 ?c5 ?_))
 case c1=>
  intro j u hj
  match j,hj with
  |0,hj=>simp at hj;subst hj;simp[Addr.add]
 case c2=>intro u hu;simp at hu;subst hu;rfl
 case c3=>rw[hlen.out];unfold maxLen;omega
 case c4=>rw[hlen.out];omega
 case c5=>simp;omega
 intro v2 w2 hown2 hgrow _;obtain⟨⟨ad,n2,cap,rfl⟩,hb2,R1,R2,R3⟩:=qjS (p:=[c]) (w:=w) hB HBK.out hne (fun k hk=>Lib.alloc_old w1 _ k hk) (by simp) hgrow (HB1.out.alloc (by omega) _) (HK1.out.alloc _) (World.ownsRowF.alloc hown.out _) (by rw[hlen.out];simp) hown2 (by simp;omega);have d0:w2.cell? ⟨b,0,none⟩=some (.pointer (some ⟨b,0,none⟩)):=by rw[Lib.cell_of_heap hb2];rfl
 have d1:w2.cell? ⟨b,1,none⟩=some v:=by rw[Lib.cell_of_heap hb2];rfl
 have f1:w2.frozen? ⟨b,1,none⟩=false:=Lib.frozen_of_heap hb2 1;have R:=Lh (And.intro R1 (And.intro R2 R3));clear R1 R2 R3 hown2 hgrow hb2;go_wp2_with fail;go_ret;exact⟨rfl,R.out⟩
theorem qqc (B b:Nat) (l:List UInt8) (s:ByteArray) (hs:s=⟨l.toArray⟩) (w:World) (h:qlx B b l w) (hBw:B≤w.heap.size):
 Calls Tryz.prog 39 #[.pointer (some ⟨b,0,none⟩)] w fun e w'=>e= .returned (.string s)∧qlx B b l w'∧Below B w w'∧Lib.OthersKept 5 (some b) w w':=by
 subst hs;exact Tryz.Builder_String_any_k B b l w h hBw
def esc (x:UInt8):List UInt8:=if x=92 then [92] else if x=110 then [10] else if x=34 then [34] else []
def comb (p:List UInt8) (k:Nat) (r:Int×List UInt8×Nat):Int×List UInt8×Nat:=if r.1=0 then (0,p++r.2.1,k+r.2.2) else (r.1,[],0)
def rdq:List UInt8→Int×List UInt8×Nat
 | []=>(222,[],0)
 | [c]=>if c=10 then (223,[],0) else if c=34 then (0,[],0) else (222,[],0)
 |c::x::t=>if c=10 then (223,[],0) else if c=34 then (0,[],0) else if c=92 then if esc x=[] then (220,[],0) else comb (esc x) 2 (rdq t) else comb [c] 1 (rdq (x::t))
theorem qf9 (p q:List UInt8) (j k:Nat) (r:Int×List UInt8×Nat):comb p j (comb q k r)=comb (p++q) (j+k) r:=by
 unfold comb
 by_cases h:r.1=0
 ·simp[h,Nat.add_assoc]
 ·simp[h]
theorem qas (l:List UInt8) (i:Nat) (h:i<l.length):l.drop i=l.getD i 0::l.drop (i+1):=by
 rw[List.drop_eq_getElem_cons h,List.getD_eq_getElem?_getD,List.getElem?_eq_getElem h];rfl
theorem qnl (l:List UInt8) (i:Nat) (h:i<l.length) (hc:l.getD i 0=10) (p:List UInt8):comb p i (rdq (l.drop i))=(223,[],0):=by
 rw[qas l i h,hc];cases l.drop (i+1)<;>rfl
theorem qjf (l:List UInt8) (i:Nat) (h:i<l.length) (hc:l.getD i 0=34) (p:List UInt8):comb p i (rdq (l.drop i))=(0,p,i):=by
 rw[qas l i h,hc];cases l.drop (i+1)<;>simp[rdq,comb]
theorem qoX (l:List UInt8) (i:Nat) (h:l.length≤i) (p:List UInt8):comb p i (rdq (l.drop i))=(222,[],0):=by
 rw[List.drop_of_length_le h];rfl
theorem qfb (l:List UInt8) (i:Nat) (h:i+1=l.length) (hc:l.getD i 0=92) (p:List UInt8):comb p i (rdq (l.drop i))=(222,[],0):=by
 rw[qas l i (by omega),hc,List.drop_of_length_le (by omega)];rfl
theorem qgj (l:List UInt8) (i:Nat) (h:i+1<l.length) (hc:l.getD i 0=92) (he:esc (l.getD (i+1) 0)=[]) (p:List UInt8):comb p i (rdq (l.drop i))=(220,[],0):=by
 rw[qas l i (by omega),hc,qas l (i+1) h,rdq,if_neg (by decide),if_neg (by decide),if_pos rfl,if_pos he];rfl
theorem qkq (l:List UInt8) (i:Nat) (h:i+1<l.length) (hc:l.getD i 0=92) (he:esc (l.getD (i+1) 0)≠[]) (p:List UInt8):comb p i (rdq (l.drop i))=comb (p++esc (l.getD (i+1) 0)) (i+2) (rdq (l.drop (i+2))):=by
 rw[qas l i (by omega),hc,qas l (i+1) h,rdq,if_neg (by decide),if_neg (by decide),if_pos rfl,if_neg he,qf9]
theorem qmC (l:List UInt8) (i:Nat) (h:i<l.length) (h1:l.getD i 0≠10) (h2:l.getD i 0≠34) (h3:l.getD i 0≠92) (p:List UInt8):comb p i (rdq (l.drop i))=comb (p++[l.getD i 0]) (i+1) (rdq (l.drop (i+1))):=by
 rw[qas l i h,←qf9]
 congr 1
 generalize l.getD i 0=c at h1 h2 h3⊢
 cases l.drop (i+1)with
 |nil=>simp[rdq,h1,h2,comb]
 |cons x t=>rw[rdq,if_neg h1,if_neg h2,if_neg h3]
def qe2:Array Value:=#[.int .u8 92,.int .u8 92,.int .u8 10,.int .u8 110,.int .u8 34,.int .u8 34]
theorem qej (w:World):Calls Tryz.prog 225 #[] w fun e w'=>e= .returned (.agg #[.int .u8 92,.int .u8 92,.int .u8 10,.int .u8 110,.int .u8 34,.int .u8 34])∧Below w.heap.size w w':=by
 go_enter Tryz.func225,Tryz.ntmps225;go_wp2_with fail;exact bodyPost_ret (v:= .agg #[.int .u8 92,.int .u8 92,.int .u8 10,.int .u8 110,.int .u8 34,.int .u8 34]) (by simp[results,Tryz.results225,go_sem]) rfl ⟨rfl,(Below.refl _ _).alloc (Nat.le_refl _) _⟩
def PA (N:Nat) (w:World):Prop:=w.heap[N]?=some (.cells qe2 276 (0,0))
def pcI (j:Nat):Int:=if j=0 then 92 else if j=1 then 10 else 34
def plI (j:Nat):Int:=if j=0 then 92 else if j=1 then 110 else 34
def RdI (w0:World) (b N:Nat) (acc:List UInt8) (w:World):Prop:=(qlx w0.heap.size b acc w∧PA N w)∧Below w0.heap.size w0 w
theorem PA.kept {N b:Nat} {w w':World} (h:PA N w) (hN:N≠b) (hk:Lib.OthersKept 5 (some b) w w'):PA N w':=
 hk N _ h (fun e=>hN (Option.some.inj e)) (fun c fz e=>by cases e)
theorem PA.cells {N:Nat} {w:World} (h:PA N w) (j:Nat) (hj:j<3):w.cell? ⟨N,j*2,none⟩=some (.int .u8 (pcI j))∧w.cell? ⟨N,j*2+1,none⟩=some (.int .u8 (plI j)):=by
 rw[Lib.cell_of_heap h,Lib.cell_of_heap h];rcases(by omega:j=0∨j=1∨j=2)with rfl|rfl|rfl<;>exact⟨rfl,rfl⟩
theorem RdI.alloc {w0:World} {b N:Nat} {acc:List UInt8} {w:World} (h:RdI w0 b N acc w) (o:Obj):RdI w0 b N acc (w.alloc o):=by
 obtain⟨⟨h1,h2⟩,h3⟩:=h;exact⟨⟨h1.alloc o,(Lib.alloc_old w o N (Array.getElem?_eq_some_iff.1 h2).1).trans h2⟩,h3.alloc h3.size _⟩
theorem RdI.drew {w0:World} {b N:Nat} {acc:List UInt8} {w:World} (h:RdI w0 b N acc w):RdI w0 b N acc w.drew:=⟨h.1,h.2.drew⟩
theorem qsu (w0:World) (b N:Nat) (hN:N≠b) (acc:List UInt8) (c:UInt8) (hl:acc.length<1000000) (w:World) (h:RdI w0 b N acc w):
 Calls Tryz.prog 99 #[.pointer (some ⟨b,0,none⟩),.int .u8 (c.toNat:Int)] w fun e w'=>e= .returned .nilIface∧RdI w0 b N (acc++[c]) w':=by
 obtain⟨⟨h1,h2⟩,h3⟩:=h;refine(qtx w0.heap.size b acc c hl w h1 h3.size).mono ?_;rintro e w' ⟨rfl,g1,g2,g3⟩;exact⟨rfl,⟨g1,h2.kept hN g3⟩,h3.trans g2⟩
theorem qdh (c k:UInt8) (n:Int) (hn:(k.toNat:Int)=n) (h:c≠k):((c.toNat:Int)==n)=false:=by
 rw[beq_eq_false_iff_ne];exact fun e=>h (UInt8.toNat_inj.1 (by omega))
def plU (j:Nat):UInt8:=if j=0 then 92 else if j=1 then 110 else 34
def pcU (j:Nat):UInt8:=if j=0 then 92 else if j=1 then 10 else 34
def qdo (x:UInt8):Nat→List UInt8
 |0=>[]
 |j+1=>qdo x j++(if x=plU j then [pcU j] else [])
def fnd (x:UInt8):Nat→Bool
 |0=>false
 |j+1=>fnd x j||decide (x=plU j)
theorem qqI (x:UInt8):qdo x 3=esc x:=by
 unfold esc
 by_cases h1:x=92
 ·subst h1;decide
 ·by_cases h2:x=110
  ·subst h2;decide
  ·by_cases h3:x=34
   ·subst h3;decide
   ·simp[qdo,plU,h1,h2,h3]
theorem qsg (x:UInt8):fnd x 3=decide (esc x≠[]):=by
 unfold esc
 by_cases h1:x=92
 ·subst h1;decide
 ·by_cases h2:x=110
  ·subst h2;decide
  ·by_cases h3:x=34
   ·subst h3;decide
   ·simp[fnd,plU,h1,h2,h3]
theorem qk4 (j:Nat):plI j=((plU j).toNat:Int):=by unfold plI plU;(repeat' split)<;>rfl
theorem qjm (j:Nat):pcI j=((pcU j).toNat:Int):=by unfold pcI pcU;(repeat' split)<;>rfl
theorem qe3 (x:UInt8): ∀j,(qdo x j).length≤j
 |0=>Nat.le_refl _
 |j+1=>by
  have:=qe3 x j;simp only[qdo,List.length_append]
  split<;>simp<;>omega
theorem qjN (w w1:World) (h:Below (w.alloc (.cells #[.pointer none,.slice none 0 0] 80)).heap.size (w.alloc (.cells #[.pointer none,.slice none 0 0] 80)) w1):RdI w w.heap.size w1.heap.size [] (w1.alloc (.cells qe2 276)):=by
 have hs:(w.alloc (.cells #[.pointer none,.slice none 0 0] 80)).heap.size=w.heap.size+1:=by simp
 have hs1:=h.size;have hb:w1.heap[w.heap.size]?=some (.cells #[.pointer none,.slice none 0 0] 80 (0,0)):=(h.block w.heap.size (by omega)).trans (World.alloc_heap_new _ _);have h1:qlx w.heap.size w.heap.size [] w1:= .of (.inl ⟨Nat.le_refl _,.slice none 0 0,hb,World.ownsRow_nil _ _ 5 1,by simp[Value.ownBlock]⟩);exact⟨⟨h1.alloc _,World.alloc_heap_new _ _⟩,(((Below.refl _ _).alloc (Nat.le_refl _) _).trans (h.mono (by omega))).alloc (by omega) _⟩
theorem qku (s:ByteArray) (hs:s.size<900000) (w:World):Calls Tryz.prog 236 #[.string s,.int .i64 3,.bool true] w fun e w'=>e= .returned (.tuple #[.string ⟨(comb [] 0 (rdq s.data.toList)).2.1.toArray⟩,.int .i64 (comb [] 0 (rdq s.data.toList)).2.2,.int .i64 (comb [] 0 (rdq s.data.toList)).1])∧Below w.heap.size w w':=by
 obtain⟨R,hR⟩: ∃R,Hid (comb [] 0 (rdq (s.data.toList.drop 0))=R):=⟨_,rfl⟩;rw[show comb [] 0 (rdq s.data.toList)=R from hR.out];have hz:Hid (s.data.toList.length=s.size):=by show _=_;simp
 go_enter Tryz.func236,Tryz.ntmps236;go_wp2_with fail;go_step3;go_wp2_with fail;refine(qej _).mono ?_;rintro e w1 ⟨rfl,hb1⟩;go_wp2_with fail;go_step3;show Exit.then _ _ _ _ (w1.alloc (.cells qe2 276));have I:=Lh (qjN w w1 hb1);have hN:w1.heap.size≠w.heap.size:=by have:=hb1.size;simp at this;omega
 clear hb1;generalize w1.alloc (.cells qe2 276)=w2 at I⊢;generalize w1.heap.size=N at I hN⊢;go_wp2_with fail;go_loopg [11,12] (s.size+1) (fun g s11 s12 wx=> ∃(i:Nat) (acc:List UInt8),i+g=s.size+1∧s11= .int .i64 i∧s12= .int .i64 222∧i≤s.size∧acc.length≤i∧Hid (comb acc i (rdq (s.data.toList.drop i))=R)∧Hid (RdI w w.heap.size N acc wx))
 case atStart=>exact⟨0,[],by omega,rfl,rfl,by omega,by simp,hR,I⟩
 case round=>
  clear I hR;obtain⟨i,acc,hi,rfl,rfl,hin,hal,hR,I⟩:=hrel
  by_cases hlt:i<s.size
  ·have t1:decide (i<s.size)=true:=dT hlt;have hB:=qde s i hlt;obtain⟨c,hc⟩: ∃c,Hid (s.data.toList.getD i 0=c):=⟨_,rfl⟩;rw[show byt s i=(c.toNat:Int) by unfold byt;rw[hc.out]] at hB;have hli:i<s.data.toList.length:=by rw[hz.out];exact hlt
   by_cases g1:c=10
   ·subst g1;have e:=hR.out;rw[qnl _ _ hli hc.out] at e;subst e;rw[show(((10:UInt8).toNat:Int))=10 from rfl] at hB;clear hli hc hR;go_wp2_with fail;rw[Exit.noGoto_ret];go_ret3;exact⟨rfl,I.out.2⟩
   ·have s1:((c.toNat:Int)==10)=false:=qdh c 10 _ rfl g1
    by_cases g2:c=34
    ·subst g2;have e:=hR.out;rw[qjf _ _ hli hc.out] at e;subst e;rw[show(((34:UInt8).toNat:Int))=34 from rfl] at hB;clear hli hc hR;go_wp2_with fail;refine(qqc w.heap.size w.heap.size acc _ rfl _ I.out.1.1 I.out.2.size).mono ?_;rintro e w3 ⟨rfl,_,hb3,_⟩;have B3:=I.out.2.trans hb3;go_wp2_with fail;rw[Exit.noGoto_ret];go_ret3;exact⟨rfl,B3⟩
    ·have s2:((c.toNat:Int)==34)=false:=qdh c 34 _ rfl g2
     by_cases g3:c=92
     ·subst g3;rw[show(((92:UInt8).toNat:Int))=92 from rfl] at hB
      by_cases hend:i+1=s.size
      ·have e:=hR.out;rw[qfb _ _ (by rw[hz.out];exact hend) hc.out] at e;subst e;have t2:((i:Int)+1==(s.size:Int))=true:=by simp;omega
       clear hli hc hR;go_wp2_with fail;rw[Exit.noGoto_ret];go_ret3;exact⟨rfl,I.out.2⟩
      ·have t2:((i:Int)+1==(s.size:Int))=false:=by simp;omega
       have hlt2:i+1<s.size:=by omega
       have hB2:=qde s (i+1) hlt2;obtain⟨x,hx⟩: ∃x,Hid (s.data.toList.getD (i+1) 0=x):=⟨_,rfl⟩;rw[show byt s (i+1)=(x.toNat:Int) by unfold byt;rw[hx.out]] at hB2;have t3:decide (0≤(i:Int)+1)=true:=dT (by omega);go_wp2_with fail;go_loopg [14,55] 3 (fun gj s14 s55 wx=> ∃j:Nat,j+gj=3∧s55= .int .i64 j∧s14= .bool (fnd x j)∧Hid (RdI w w.heap.size N (acc++qdo x j) wx))
       case atStart=>exact⟨0,by omega,rfl,rfl,by rw[qdo,List.append_nil];exact I⟩
       case round=>
        clear I;obtain⟨j,hj,rfl,rfl,I⟩:=hrel
        by_cases hlj:j<3
        ·have t4:decide (j<3)=true:=dT hlj;obtain⟨k1,k2⟩:=I.out.1.2.cells j hlj;rw[qjm] at k1;rw[qk4] at k2;have hI1:=Lh (I.out.alloc (.cells #[.int .u8 ((pcU j).toNat:Int),.int .u8 ((plU j).toNat:Int)] 275));have hol:=qe3 x j
         by_cases he:x=plU j
         ·have s4:((x.toNat:Int)==((plU j).toNat:Int))=true:=by rw[he];simp
          have ho:acc++qdo x j++[pcU j]=acc++qdo x (j+1):=by rw[qdo,if_pos he,List.append_assoc]
          have hf:fnd x (j+1)=true:=by rw[fnd,dT he,Bool.or_true]
          replace ho:=Lh ho;clear I;go_upto_region 26 with (fail)
          go_region;go_wp2_with fail;refine(qsu w w.heap.size N hN (acc++qdo x j) (pcU j) (by simp;omega) _ hI1.out.drew).mono ?_;rintro e w3 ⟨rfl,hI3⟩;rw[ho.out] at hI3;replace hI3:=Lh hI3;clear hI1;go_wp2_with fail;go_roundg (gk - 1)
          case measure=>omega
          case rel=>exact⟨j+1,by omega,rfl,by rw[hf],hI3⟩
         ·have s4:((x.toNat:Int)==((plU j).toNat:Int))=false:=qdh x _ _ rfl he;have ho:acc++qdo x (j+1)=acc++qdo x j:=by rw[qdo,if_neg he,List.append_nil]
          have hf:fnd x (j+1)=fnd x j:=by rw[fnd,dF he,Bool.or_false]
          replace ho:=Lh ho;clear I;go_upto_region 26 with (fail)
          go_region;go_wp2_with fail;go_roundg (gk - 1)
          case measure=>omega
          case rel=>exact⟨j+1,by omega,rfl,by rw[hf],by rw[ho.out];exact hI1.out.drew⟩
        ·obtain rfl:j=3:=by omega
         have t4:decide (3<3)=false:=rfl;rw[qqI] at I
         by_cases he:esc x=[]
         ·have hf:fnd x 3=false:=by rw[qsg,he];rfl
          have e:=hR.out;rw[qgj _ _ (by rw[hz.out];exact hlt2) hc.out (by rw[hx.out];exact he)] at e;subst e;clear hli hc hR hx;go_wp2_with fail;rw[Exit.noGoto_ret];go_ret3;exact⟨rfl,I.out.2⟩
         ·have hf:fnd x 3=true:=by rw[qsg];exact dT he
          have hR2:=qkq _ _ (by rw[hz.out];exact hlt2) hc.out (by rw[hx.out];exact he) acc;rw[hx.out,hR.out] at hR2;replace hR2:=Lh hR2.symm;have hel:(esc x).length≤1:=by unfold esc;(repeat' split)<;>simp
          clear hli hc hR hx;go_wp2_with fail;go_roundg (s.size+1 - (i+2))
          case measure=>omega
          case rel=>exact⟨i+2,acc++esc x,by omega,by go_num,rfl,by omega,by simp;omega,hR2,I⟩
     ·have s3:((c.toNat:Int)==92)=false:=qdh c 92 _ rfl g3;have s3':((c.toNat:Int) !=92)=true:=by rw[bne,s3];rfl
      have hR2:=Lh (qmC _ _ hli (by rw[hc.out];exact g1) (by rw[hc.out];exact g2) (by rw[hc.out];exact g3) acc);rw[hc.out,hR.out] at hR2;replace hR2:=Lh hR2.out.symm;go_wp2_with fail;refine(qsu w w.heap.size N hN acc c (by omega) _ I.out).mono ?_;rintro e w3 ⟨rfl,hI3⟩;replace hI3:=Lh hI3;clear I hR;go_wp2_with fail;go_roundg (gk - 1)
      case measure=>omega
      case rel=>exact⟨i+1,acc++[c],by omega,rfl,rfl,by omega,by simp;omega,hR2,hI3⟩
  ·obtain rfl:i=s.size:=by omega
   have t1:decide (s.size<s.size)=false:=dF (by omega);have e:=hR.out;rw[qoX _ _ (by rw[hz.out];omega)] at e;subst e;go_wp2_with fail;rw[Exit.noGoto_ret];go_ret3;exact⟨rfl,I.out.2⟩
theorem qoF (s:ByteArray) (i:Nat):(s.extract i s.size).data.toList=s.data.toList.drop i:=by
 rw[ByteArray.data_extract,Array.toList_extract,List.extract_eq_take_drop,List.take_of_length_le];rw[List.length_drop,Array.length_toList];exact Nat.le_refl _
theorem rdq_le (l:List UInt8):(rdq l).1=0→(rdq l).2.2<l.length∧(rdq l).2.1.length≤(rdq l).2.2:=by
 fun_induction rdq l with
 |case1=>intro h;simp at h
 |case2=>intro h;simp at h
 |case3 h1=>intro _;simp
 |case4 c h1 h2=>intro h;simp at h
 |case5 x t=>intro h;simp at h
 |case6 x t h1=>intro _;simp
 |case7 x t h1 h2 h3=>intro h;simp at h
 |case8 x t h3 h4 h5 ih=>
  intro h;unfold comb at h⊢
  by_cases g:(rdq t).1=0
  ·have:=ih g;have hel:(esc x).length≤1:=by unfold esc;(repeat' split)<;>simp
   simp[g];omega
  ·simp[g] at h
 |case9 c x t h1 h2 h3 ih=>
  intro h;unfold comb at h⊢
  by_cases g:(rdq (x::t)).1=0
  ·have:=ih g;simp at this;simp[g];omega
  ·simp[g] at h
def quF (l:List UInt8):Int×List UInt8×Nat:=if (comb [] 0 (rdq (l.drop 1))).1=0 then (0,(comb [] 0 (rdq (l.drop 1))).2.1,(comb [] 0 (rdq (l.drop 1))).2.2+2) else ((comb [] 0 (rdq (l.drop 1))).1,[],0)
theorem qlV (s:ByteArray) (hs:s.size<900000) (e:Int) (t:List UInt8) (n:Nat) (h:comb [] 0 (rdq s.data.toList)=(e,t,n)) (w:World):
 Calls Tryz.prog 236 #[.string s,.int .i64 3,.bool true] w fun x w'=>x= .returned (.tuple #[.string ⟨t.toArray⟩,.int .i64 n,.int .i64 e])∧Below w.heap.size w w':=by
 have:=qku s hs w;rw[h] at this;exact this
theorem quote_any (s:ByteArray) (hs:s.size≤65536) (h0:0<s.size) (hq:s.data.toList.getD 0 0=34) (w:World):Calls Tryz.prog 181 #[.string s,.int .i64 0] w fun e w'=>e= .returned (.tuple #[.string ⟨(quF s.data.toList).2.1.toArray⟩,.int .i64 (quF s.data.toList).2.2,.int .i64 (quF s.data.toList).1])∧Below w.heap.size w w':=by
 obtain⟨e,t,n,hr⟩: ∃e t n,Hid (comb [] 0 (rdq (s.data.toList.drop 1))=(e,t,n)):=⟨_,_,_,rfl⟩;have t1:decide (65536<(s.size:Int))=false:=dF (by omega);have t2:decide ((s.size:Int)<0)=false:=dF (by omega);have t3:((0:Int)==(s.size:Int))=false:=by simp;omega
 have t4:decide (1≤s.size)=true:=dT (by omega);have hB:=qde s 0 h0;rw[show byt s 0=34 by unfold byt;rw[hq];rfl] at hB;have hrd: ∀W,Calls Tryz.prog 236 #[.string (s.extract 1 s.size),.int .i64 3,.bool true] W fun x w'=>x= .returned (.tuple #[.string ⟨t.toArray⟩,.int .i64 n,.int .i64 e])∧Below W.heap.size W w':=fun W=>qlV _ (by rw[ByteArray.size_extract];omega) e t n (by rw[qoF];exact hr.out) W
 replace hrd:=Lh hrd;have hF:quF s.data.toList=if e=0 then (0,t,n+2) else (e,[],0):=by unfold quF;rw[hr.out]
 rw[hF]
 by_cases he:e=0
 ·subst he;rw[if_pos rfl]
  have hn:n<s.size:=by
   have h1:=hr.out;have h2:=rdq_le (s.data.toList.drop 1);unfold comb at h1
   by_cases g:(rdq (s.data.toList.drop 1)).1=0
   ·rw[if_pos g] at h1;have h3:=(h2 g).1;simp only[Prod.mk.injEq] at h1;rw[List.length_drop,show s.data.toList.length=s.size by simp] at h3;omega
   ·rw[if_neg g] at h1;simp only[Prod.mk.injEq] at h1;omega
  have q1:wrap64 (1+(n:Int))=1+n:=IntWalk.wrap64_in _ ⟨by omega,by omega⟩;have q2:wrap64 (1+(n:Int)+1)=1+n+1:=IntWalk.wrap64_in _ ⟨by omega,by omega⟩;clear hF hr;go_enter Tryz.func181,Tryz.ntmps181;go_wp2_with fail;refine(hrd.out _).mono ?_;rintro x w1 ⟨rfl,hb⟩;go_wp2_with fail;go_ret3;refine⟨?_,hb⟩;show Ending.returned (.tuple #[.string ⟨t.toArray⟩,.int .i64 (1+(n:Int)+1),.int .i64 0])=_;rw[show 1+(n:Int)+1=((n+2:Nat):Int) by omega]
 ·rw[if_neg he];have t5:(e !=0)=true:=by simpa using he
  clear hF hr;go_enter Tryz.func181,Tryz.ntmps181;go_wp2_with fail;refine(hrd.out _).mono ?_;rintro x w1 ⟨rfl,hb⟩;go_wp2_with fail;go_ret3;exact⟨rfl,hb⟩
theorem qe1 (l:List UInt8):(⟨l.toArray⟩:ByteArray).size=l.length:=by show l.toArray.size=_;simp
end Go.Proofs.YtdeimnnpcfncpaaGreatDoor.L
