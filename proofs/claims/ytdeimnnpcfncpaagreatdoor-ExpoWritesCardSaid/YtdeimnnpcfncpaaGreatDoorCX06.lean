/- Parts of the proof: LR1. -/
import Derived.RangeFuncWrites
import Derived.Outline
import Derived.Deep.QuietTactic
import Derived.Test.YtdeimnnpcfncpaaGreatDoorCX05
import Derived.Test.YtdeimnnpcfncpaaGreatDoorCX00
set_option linter.unusedVariables false
set_option linter.unusedSimpArgs false
set_option maxRecDepth 100000
set_option maxHeartbeats 64000000
namespace Go.Proofs.YtdeimnnpcfncpaaGreatDoor.L
open Go.RowKit
def qct (x:Int):Prop:=0≤x∧x≤1114111∧(x<55296∨57343<x)
instance (x:Int):Decidable (qct x):=by unfold qct;infer_instance
theorem qcm {w a b:World} (h:Below w.heap.size w a) (k:Below a.heap.size a b):Below w.heap.size w b:=h.trans (k.mono h.size)
theorem below_drewN {B:Nat} {a w:World} (h:Below B a w) (n:Nat):Below B a (w.drewN n):=h.trans ⟨rfl,rfl,rfl,Nat.le_refl _,fun _ _=>rfl⟩
theorem qbG (n:Int) (h0:0≤n) (h1:n<256):IntKind.u8.wrap n=n:=by rw[IntKind.wrap_u8];omega
def b8 (n:Int):UInt8:=UInt8.ofNat n.toNat
theorem qcz (n:Int) (h0:0≤n) (h1:n<256):Value.int .u8 n=qax (b8 n):=by
 unfold qax b8;rw[UInt8.toNat_ofNat'];congr 1;omega
def frm (x:Int):List UInt8:=
 if x<128 then [b8 x] else if x<2048 then [b8 (192+x/64),b8 (128+x%64)] else if x<65536 then [b8 (224+x/4096),b8 (128+x/64%64),b8 (128+x%64)] else [b8 (240+x/262144),b8 (128+x/4096%64),b8 (128+x/64%64),b8 (128+x%64)]
theorem qi1 (x:Int) (w:World):Calls Tryz.prog 289 #[.int .i64 x] w fun e w'=>e= .returned (.bool (decide (qct x)))∧w=w':=by
 rcases(show x<0∨(0≤x∧x<55296)∨(55296≤x∧x≤57343)∨(57343<x∧x≤1114111)∨1114111<x by omega)with h|⟨h,h'⟩|⟨h,h'⟩|⟨h,h'⟩|h
 ·rw[show decide (qct x)=false from dF (by unfold qct;omega)];have t1:decide (0≤x)=false:=dF (by omega);have t2:decide (x<1114112)=true:=dT (by omega);have t3:decide (x<55296)=true:=dT (by omega);have t4:decide (57343<x)=false:=dF (by omega);go_enter Tryz.func289,Tryz.ntmps289;go_wp2_with fail;go_ret;exact⟨rfl,rfl⟩
 ·rw[show decide (qct x)=true from dT (by unfold qct;omega)];have t1:decide (0≤x)=true:=dT (by omega);have t2:decide (x<1114112)=true:=dT (by omega);have t3:decide (x<55296)=true:=dT (by omega);have t4:decide (57343<x)=false:=dF (by omega);go_enter Tryz.func289,Tryz.ntmps289;go_wp2_with fail;go_ret;exact⟨rfl,rfl⟩
 ·rw[show decide (qct x)=false from dF (by unfold qct;omega)];have t1:decide (0≤x)=true:=dT (by omega);have t2:decide (x<1114112)=true:=dT (by omega);have t3:decide (x<55296)=false:=dF (by omega);have t4:decide (57343<x)=false:=dF (by omega);go_enter Tryz.func289,Tryz.ntmps289;go_wp2_with fail;go_ret;exact⟨rfl,rfl⟩
 ·rw[show decide (qct x)=true from dT (by unfold qct;omega)];have t1:decide (0≤x)=true:=dT (by omega);have t2:decide (x<1114112)=true:=dT (by omega);have t3:decide (x<55296)=false:=dF (by omega);have t4:decide (57343<x)=true:=dT (by omega);go_enter Tryz.func289,Tryz.ntmps289;go_wp2_with fail;go_ret;exact⟨rfl,rfl⟩
 ·rw[show decide (qct x)=false from dF (by unfold qct;omega)];have t1:decide (0≤x)=true:=dT (by omega);have t2:decide (x<1114112)=false:=dF (by omega);have t3:decide (x<55296)=false:=dF (by omega);have t4:decide (57343<x)=true:=dT (by omega);go_enter Tryz.func289,Tryz.ntmps289;go_wp2_with fail;go_ret;exact⟨rfl,rfl⟩
theorem qfX (w:World) (xs:List Value) (n:Nat) (hn:xs.length=n) (hpos:n≤1000):Row (w.alloc (.cells xs.toArray 5)) (.slice (some ⟨w.heap.size,0,none⟩) n n) xs:=by
 subst hn;refine .inr ⟨w.heap.size,0,xs.length,rfl,by simp,Nat.le_refl _,by unfold maxLen;omega,fun i hi=>?_⟩;simp[World.cell?,World.alloc,-World.alloc_eq,hi]
theorem qdO (x:Int) (hp:qct x) (w:World):
 Calls Tryz.prog 290 #[.int .i64 x] w fun e w'=>(∃v,e= .returned v∧Row w' v ((frm x).map qax))∧Below w.heap.size w w':=by
 obtain⟨h0,hx,_⟩:=hp;rcases(show x<128∨(128≤x∧x<2048)∨(2048≤x∧x<65536)∨65536≤x by omega)with h1|⟨h1,h2⟩|⟨h1,h2⟩|h1
 ·have hcells:Hid ((frm x).map qax=[.int .u8 (x)]):=by
   show _=_;unfold frm;rw[if_pos h1,qcz (x) (by omega) (by omega)];rfl
  have q1:=qbG x (by omega) (by omega);go_enter Tryz.func290,Tryz.ntmps290;go_wp2_with fail;go_ret;refine⟨⟨_,rfl,?_⟩,(Below.refl _ _).alloc (Nat.le_refl _) _⟩;rw[hcells.out];exact qfX w _ 1 rfl (by omega)
 ·have hcells:Hid ((frm x).map qax=[.int .u8 (192+x/64),.int .u8 (128+x%64)]):=by
   show _=_;unfold frm;rw[if_neg (by omega),if_pos h2,qcz (192+x/64) (by omega) (by omega),qcz (128+x%64) (by omega) (by omega)];rfl
  have q1:=qbG (192+x/64) (by omega) (by omega);have q2:=qbG (128+x%64) (by omega) (by omega);go_enter Tryz.func290,Tryz.ntmps290;go_wp2_with fail;go_ret;refine⟨⟨_,rfl,?_⟩,(Below.refl _ _).alloc (Nat.le_refl _) _⟩;rw[hcells.out];exact qfX w _ 2 rfl (by omega)
 ·have hcells:Hid ((frm x).map qax=[.int .u8 (224+x/4096),.int .u8 (128+x/64%64),.int .u8 (128+x%64)]):=by
   show _=_;unfold frm;rw[if_neg (by omega),if_neg (by omega),if_pos h2,qcz (224+x/4096) (by omega) (by omega),qcz (128+x/64%64) (by omega) (by omega),qcz (128+x%64) (by omega) (by omega)];rfl
  have q1:=qbG (224+x/4096) (by omega) (by omega);have q2:=qbG (128+x/64%64) (by omega) (by omega);have q3:=qbG (128+x%64) (by omega) (by omega);go_enter Tryz.func290,Tryz.ntmps290;go_wp2_with fail;go_ret;refine⟨⟨_,rfl,?_⟩,(Below.refl _ _).alloc (Nat.le_refl _) _⟩;rw[hcells.out];exact qfX w _ 3 rfl (by omega)
 ·have hcells:Hid ((frm x).map qax=[.int .u8 (240+x/262144),.int .u8 (128+x/4096%64),.int .u8 (128+x/64%64),.int .u8 (128+x%64)]):=by
   show _=_;unfold frm;rw[if_neg (by omega),if_neg (by omega),if_neg (by omega),qcz (240+x/262144) (by omega) (by omega),qcz (128+x/4096%64) (by omega) (by omega),qcz (128+x/64%64) (by omega) (by omega),qcz (128+x%64) (by omega) (by omega)];rfl
  have q1:=qbG (240+x/262144) (by omega) (by omega);have q2:=qbG (128+x/4096%64) (by omega) (by omega);have q3:=qbG (128+x/64%64) (by omega) (by omega);have q4:=qbG (128+x%64) (by omega) (by omega);go_enter Tryz.func290,Tryz.ntmps290;go_wp2_with fail;go_ret;refine⟨⟨_,rfl,?_⟩,(Below.refl _ _).alloc (Nat.le_refl _) _⟩;rw[hcells.out];exact qfX w _ 4 rfl (by omega)
theorem qpF (x:Int):(frm x).length≤4:=by unfold frm;(repeat' split)<;>simp
theorem qeA (x:Int):1≤(frm x).length:=by unfold frm;(repeat' split)<;>simp
def gi (l:List UInt8) (i:Nat):Int:=((l.getD i 0).toNat:Int)
def qeF (l:List UInt8) (i:Nat):Bool:=(i==1&&!sec (gi l 0) (gi l i))||decide (gi l i<128)||decide (192≤gi l i)
def decl (l:List UInt8) (n i:Nat) (x:Int):Int×Int×Int:=
 if i<n then if i<l.length then if qeF l i then (0,0,11) else decl l n (i+1) (x*64+gi l i%64) else (0,0,10) else (x,(n:Int),0)
termination_by n - i
def dec (l:List UInt8):Int×Int×Int:=
 if l=[] then (0,0,6) else if hdn (gi l 0)=0 then (0,0,11) else decl l (hdn (gi l 0)) 1 (hdx (gi l 0))
theorem qbz (l:List UInt8) (n i:Nat) (x:Int) (h: ¬i<n):decl l n i x=(x,(n:Int),0):=by rw[decl,if_neg h]
theorem qch (l:List UInt8) (n i:Nat) (x:Int) (h:i<n) (h2: ¬i<l.length):decl l n i x=(0,0,10):=by rw[decl,if_pos h,if_neg h2]
theorem qfD (l:List UInt8) (n i:Nat) (x:Int) (h:i<n) (h2:i<l.length) (h3:qeF l i=true):decl l n i x=(0,0,11):=by rw[decl,if_pos h,if_pos h2,if_pos h3]
theorem qaN (l:List UInt8) (n i:Nat) (x:Int) (h:i<n) (h2:i<l.length) (h3:qeF l i=false):decl l n i x=decl l n (i+1) (x*64+gi l i%64):=by rw[decl,if_pos h,if_pos h2,if_neg (by simp[h3])]
theorem qdT (s:ByteArray) (k i:Nat):byt s (k+i)=gi (s.data.toList.drop k) i:=by
 unfold byt gi;simp[List.getD_eq_getElem?_getD,List.getElem?_drop]
theorem qb5 (s:ByteArray):s.size=s.data.toList.length:=by simp
theorem qnQ (s:ByteArray) (k n:Nat): ∀(m i:Nat) (x:Int),m=n - i→rdl s k n i x=decl (s.data.toList.drop k) n i x:=by
 intro m;have hl:(s.data.toList.drop k).length=s.size - k:=by rw[List.length_drop,qb5]
 have h0:byt s k=gi (s.data.toList.drop k) 0:=by have:=qdT s k 0;simpa using this
 have hb: ∀i,qcL s k i=qeF (s.data.toList.drop k) i:=fun i=>by unfold qcL qeF;rw[qdT,h0]
 induction m with
 |zero=>intro i x hm;rw[qhz _ _ _ _ _ (by omega),qbz _ _ _ _ (by omega)]
 |succ m ih=>
  intro i x hm
  by_cases hs:k+i<s.size
  ·cases hc:qcL s k i with
   |true=>rw[qfA _ _ _ _ _ (by omega) hs hc,qfD _ _ _ _ (by omega) (by omega) (by rw[←hb,hc])]
   |false=>rw[qdR _ _ _ _ _ (by omega) hs hc,qaN _ _ _ _ (by omega) (by omega) (by rw[←hb,hc]),qdT,ih _ _ (by omega)]
  ·rw[qdZ _ _ _ _ _ (by omega) hs,qch _ _ _ _ (by omega) (by omega)]
theorem rd_dec (s:ByteArray) (k:Nat) (h:k≤s.size):rd s k=dec (s.data.toList.drop k):=by
 have hl:(s.data.toList.drop k).length=s.size - k:=by rw[List.length_drop,qb5]
 have h0:byt s k=gi (s.data.toList.drop k) 0:=by have:=qdT s k 0;simpa using this
 unfold rd dec;rw[if_neg (by omega)]
 by_cases he:k=s.size
 ·rw[if_pos (by omega),if_pos (List.eq_nil_of_length_eq_zero (by omega))]
 ·rw[if_neg (by omega),if_neg (show¬s.data.toList.drop k=[] from fun hn=>by rw[hn] at hl;simp at hl;omega)];rw[show(k:Int).toNat=k from Int.toNat_natCast k,qnQ s k _ _ 1 _ rfl,h0]
theorem qaT (n:Int) (h0:0≤n) (h1:n<256):((b8 n).toNat:Int)=n:=by
 unfold b8;rw[UInt8.toNat_ofNat'];omega
theorem qeK (a:UInt8):b8 (a.toNat:Int)=a:=by
 unfold b8;simp
theorem qtC (a:UInt8) (t:List UInt8):gi (a::t) 0=a.toNat:=rfl
theorem qte (a b:UInt8) (t:List UInt8):gi (a::b::t) 1=b.toNat:=rfl
theorem qum (a b c:UInt8) (t:List UInt8):gi (a::b::c::t) 2=c.toNat:=rfl
theorem quw (a b c d:UInt8) (t:List UInt8):gi (a::b::c::d::t) 3=d.toNat:=rfl
theorem qdX (f c:Int) (h0:128≤c) (h1:c<192) (h2:f=224→160≤c) (h3:f=237→c<160) (h4:f=240→144≤c) (h5:f=244→c<144):sec f c=true:=by
 unfold sec;rw[if_neg (by omega)]
 split
 ·simp;exact h2 ‹_›
 ·split
  ·simp;exact h3 ‹_›
  ·split
   ·simp;exact h4 ‹_›
   ·split
    ·simp;exact h5 ‹_›
    ·rfl
theorem qkY (f c:Int) (h:sec f c=true):128≤c∧c<192∧(f=224→160≤c)∧(f=237→c<160)∧(f=240→144≤c)∧(f=244→c<144):=by
 unfold sec at h
 split at h
 ·cases h
 ·split at h
  ·simp at h;omega
  ·split at h
   ·simp at h;omega
   ·split at h
    ·simp at h;omega
    ·split at h
     ·simp at h;omega
     ·omega
theorem qdF (l:List UInt8) (h:sec (gi l 0) (gi l 1)=true):qeF l 1=false:=by
 have:=qkY _ _ h;unfold qeF;rw[h,dF (by omega),dF (by omega)];rfl
theorem qd5 (l:List UInt8) (i:Nat) (hi:i≠1) (h1:128≤gi l i) (h2:gi l i<192):qeF l i=false:=by
 unfold qeF;rw[dF (by omega),dF (by omega)];simp[hi]
theorem qdl (l:List UInt8) (i:Nat) (h:qeF l i=false):128≤gi l i∧gi l i<192∧(i=1→sec (gi l 0) (gi l 1)=true):=by
 unfold qeF at h;simp only[Bool.or_eq_false_iff,decide_eq_false_iff_not] at h;refine⟨by omega,by omega,fun e=>?_⟩;subst e;have:=h.1.1;simpa using this
theorem qj2 (x:Int) (hp:qct x) (t:List UInt8):dec (frm x++t)=(x,((frm x).length:Int),0):=by
 obtain⟨h0,h1,h2⟩:=hp;unfold frm
 split
 ·rename_i c
  unfold dec;rw[if_neg (by simp)];have g0:gi ([b8 x]++t) 0=x:=qaT _ (by omega) (by omega);rw[g0,show hdn x=1 by unfold hdn;rw[if_pos c],if_neg (by omega),qbz _ _ _ _ (by omega),show hdx x=x by unfold hdx;rw[if_pos c]];rfl
 ·split
  ·rename_i c c2
   unfold dec;rw[if_neg (by simp)];have g0:gi ([b8 (192+x/64),b8 (128+x%64)]++t) 0=192+x/64:=qaT _ (by omega) (by omega);have g1:gi ([b8 (192+x/64),b8 (128+x%64)]++t) 1=128+x%64:=qaT _ (by omega) (by omega);rw[g0,show hdn (192+x/64)=2 by unfold hdn;(repeat' split)<;>omega,if_neg (by omega),show hdx (192+x/64)=x/64 by unfold hdx;(repeat' split)<;>omega];rw[qaN _ _ _ _ (by omega) (by simp) (qdF _ (by rw[g0,g1];apply qdX<;>omega)),qbz _ _ _ _ (by omega),g1];rw[show x/64*64+(128+x%64)%64=x by omega];rfl
  ·split
   ·rename_i c c2 c3
    unfold dec;rw[if_neg (by simp)];have g0:gi ([b8 (224+x/4096),b8 (128+x/64%64),b8 (128+x%64)]++t) 0=224+x/4096:=qaT _ (by omega) (by omega);have g1:gi ([b8 (224+x/4096),b8 (128+x/64%64),b8 (128+x%64)]++t) 1=128+x/64%64:=qaT _ (by omega) (by omega);have g2:gi ([b8 (224+x/4096),b8 (128+x/64%64),b8 (128+x%64)]++t) 2=128+x%64:=qaT _ (by omega) (by omega);rw[g0,show hdn (224+x/4096)=3 by unfold hdn;(repeat' split)<;>omega,if_neg (by omega),show hdx (224+x/4096)=x/4096 by unfold hdx;(repeat' split)<;>omega];rw[qaN _ _ _ _ (by omega) (by simp) (qdF _ (by rw[g0,g1];apply qdX<;>omega)),qaN _ _ _ _ (by omega) (by simp) (qd5 _ 2 (by omega) (by omega) (by omega)),qbz _ _ _ _ (by omega),g1,g2];rw[show(x/4096*64+(128+x/64%64)%64)*64+(128+x%64)%64=x by omega];rfl
   ·rename_i c c2 c3
    unfold dec;rw[if_neg (by simp)];have g0:gi ([b8 (240+x/262144),b8 (128+x/4096%64),b8 (128+x/64%64),b8 (128+x%64)]++t) 0=240+x/262144:=qaT _ (by omega) (by omega);have g1:gi ([b8 (240+x/262144),b8 (128+x/4096%64),b8 (128+x/64%64),b8 (128+x%64)]++t) 1=128+x/4096%64:=qaT _ (by omega) (by omega);have g2:gi ([b8 (240+x/262144),b8 (128+x/4096%64),b8 (128+x/64%64),b8 (128+x%64)]++t) 2=128+x/64%64:=qaT _ (by omega) (by omega);have g3:gi ([b8 (240+x/262144),b8 (128+x/4096%64),b8 (128+x/64%64),b8 (128+x%64)]++t) 3=128+x%64:=qaT _ (by omega) (by omega);rw[g0,show hdn (240+x/262144)=4 by unfold hdn;(repeat' split)<;>omega,if_neg (by omega),show hdx (240+x/262144)=x/262144 by unfold hdx;(repeat' split)<;>omega];rw[qaN _ _ _ _ (by omega) (by simp) (qdF _ (by rw[g0,g1];apply qdX<;>omega)),qaN _ _ _ _ (by omega) (by simp) (qd5 _ 2 (by omega) (by omega) (by omega)),qaN _ _ _ _ (by omega) (by simp) (qd5 _ 3 (by omega) (by omega) (by omega)),qbz _ _ _ _ (by omega),g1,g2,g3];rw[show((x/262144*64+(128+x/4096%64)%64)*64+(128+x/64%64)%64)*64+(128+x%64)%64=x by omega];rfl
theorem qcH {l:List UInt8} {n i:Nat} {x y m:Int} (hi:i<n) (h:decl l n i x=(y,m,0)):i<l.length∧qeF l i=false∧decl l n (i+1) (x*64+gi l i%64)=(y,m,0):=by
 by_cases hl:i<l.length
 ·cases hb:qeF l i with
  |true=>rw[qfD _ _ _ _ hi hl hb] at h;simp at h
  |false=>rw[qaN _ _ _ _ hi hl hb] at h;exact⟨hl,rfl,h⟩
 ·rw[qch _ _ _ _ hi hl] at h;simp at h
theorem qgx {l:List UInt8} {n i:Nat} {x y m:Int} (hi: ¬i<n) (h:decl l n i x=(y,m,0)):y=x∧m=n:=by
 rw[qbz _ _ _ _ hi] at h;simp at h;exact⟨h.1.symm,h.2.symm⟩
theorem qoJ (l:List UInt8) (x n:Int) (h:dec l=(x,n,0)):qct x∧n=((frm x).length:Int)∧ ∃t,l=frm x++t:=by
 unfold dec at h
 split at h
 ·simp at h
 ·rename_i hne
  split at h
  ·simp at h
  ·rename_i hh
   match l,hne with
   |a::t,_=>
    have ha:=a.toNat_lt;rw[qtC] at h hh;rcases(show(a.toNat:Int)<128∨(128≤(a.toNat:Int)∧(a.toNat:Int)<194)∨(194≤(a.toNat:Int)∧(a.toNat:Int)<224)∨(224≤(a.toNat:Int)∧(a.toNat:Int)<240)∨(240≤(a.toNat:Int)∧(a.toNat:Int)<245)∨245≤(a.toNat:Int) by omega)with g|⟨g,g2⟩|⟨g,g2⟩|⟨g,g2⟩|⟨g,g2⟩|g
    ·rw[show hdn a.toNat=1 by unfold hdn;rw[if_pos g],show hdx a.toNat=a.toNat by unfold hdx;rw[if_pos g]] at h;obtain⟨rfl,rfl⟩:=qgx (by omega) h;have hf:frm (a.toNat:Int)=[a]:=by unfold frm;rw[if_pos g,qeK]
     exact⟨⟨by omega,by omega,by omega⟩,by rw[hf];rfl,t,by rw[hf];rfl⟩
    ·exact absurd (by unfold hdn;(repeat' split)<;>omega) hh
    ·rw[show hdn a.toNat=2 by unfold hdn;(repeat' split)<;>omega,show hdx a.toNat=a.toNat%32 by unfold hdx;(repeat' split)<;>omega] at h;obtain⟨hl,hb,h⟩:=qcH (by omega) h;obtain⟨rfl,rfl⟩:=qgx (by omega) h
     match t,hl with
     |b::t,_=>
      have hb':=b.toNat_lt;obtain⟨b1,b2,b3⟩:=qdl _ _ hb;rw[qte] at b1 b2⊢
      have hf:frm ((a.toNat:Int)%32*64+b.toNat%64)=[a,b]:=by
       unfold frm;rw[if_neg (by omega),if_pos (by omega)];rw[show 192+((a.toNat:Int)%32*64+b.toNat%64)/64=a.toNat by omega,show 128+((a.toNat:Int)%32*64+b.toNat%64)%64=b.toNat by omega,qeK,qeK]
      exact⟨⟨by omega,by omega,by omega⟩,by rw[hf];rfl,t,by rw[hf];rfl⟩
    ·rw[show hdn a.toNat=3 by unfold hdn;(repeat' split)<;>omega,show hdx a.toNat=a.toNat%16 by unfold hdx;(repeat' split)<;>omega] at h;obtain⟨hl,hb,h⟩:=qcH (by omega) h;obtain⟨hl2,hb2,h⟩:=qcH (by omega) h;obtain⟨rfl,rfl⟩:=qgx (by omega) h
     match t,hl,hl2 with
     |b::c::t,_,_=>
      have hb':=b.toNat_lt;have hc':=c.toNat_lt;obtain⟨b1,b2,b3⟩:=qdl _ _ hb;obtain⟨c1,c2,_⟩:=qdl _ _ hb2;have hs:=qkY _ _ (b3 rfl);rw[qtC,qte] at hs;rw[qte] at b1 b2⊢;rw[qum] at c1 c2⊢
      have hf:frm (((a.toNat:Int)%16*64+b.toNat%64)*64+c.toNat%64)=[a,b,c]:=by
       unfold frm;rw[if_neg (by omega),if_neg (by omega),if_pos (by omega)];rw[show 224+(((a.toNat:Int)%16*64+b.toNat%64)*64+c.toNat%64)/4096=a.toNat by omega,show 128+(((a.toNat:Int)%16*64+b.toNat%64)*64+c.toNat%64)/64%64=b.toNat by omega,show 128+(((a.toNat:Int)%16*64+b.toNat%64)*64+c.toNat%64)%64=c.toNat by omega,qeK,qeK,qeK]
      exact⟨⟨by omega,by omega,by omega⟩,by rw[hf];rfl,t,by rw[hf];rfl⟩
    ·rw[show hdn a.toNat=4 by unfold hdn;(repeat' split)<;>omega,show hdx a.toNat=a.toNat%8 by unfold hdx;(repeat' split)<;>omega] at h;obtain⟨hl,hb,h⟩:=qcH (by omega) h;obtain⟨hl2,hb2,h⟩:=qcH (by omega) h;obtain⟨hl3,hb3,h⟩:=qcH (by omega) h;obtain⟨rfl,rfl⟩:=qgx (by omega) h
     match t,hl,hl2,hl3 with
     |b::c::d::t,_,_,_=>
      have hb':=b.toNat_lt;have hc':=c.toNat_lt;have hd':=d.toNat_lt;obtain⟨b1,b2,b3⟩:=qdl _ _ hb;obtain⟨c1,c2,_⟩:=qdl _ _ hb2;obtain⟨d1,d2,_⟩:=qdl _ _ hb3;have hs:=qkY _ _ (b3 rfl);rw[qtC,qte] at hs;rw[qte] at b1 b2⊢;rw[qum] at c1 c2⊢;rw[quw] at d1 d2⊢
      have hf:frm ((((a.toNat:Int)%8*64+b.toNat%64)*64+c.toNat%64)*64+d.toNat%64)=[a,b,c,d]:=by
       unfold frm;rw[if_neg (by omega),if_neg (by omega),if_neg (by omega)];rw[show 240+((((a.toNat:Int)%8*64+b.toNat%64)*64+c.toNat%64)*64+d.toNat%64)/262144=a.toNat by omega,show 128+((((a.toNat:Int)%8*64+b.toNat%64)*64+c.toNat%64)*64+d.toNat%64)/4096%64=b.toNat by omega,show 128+((((a.toNat:Int)%8*64+b.toNat%64)*64+c.toNat%64)*64+d.toNat%64)/64%64=c.toNat by omega,show 128+((((a.toNat:Int)%8*64+b.toNat%64)*64+c.toNat%64)*64+d.toNat%64)%64=d.toNat by omega,qeK,qeK,qeK,qeK]
      exact⟨⟨by omega,by omega,by omega⟩,by rw[hf];rfl,t,by rw[hf];rfl⟩
    ·exact absurd (by unfold hdn;(repeat' split)<;>omega) hh
def qrs:List UInt8→Int
 | [a]=>a.toNat
 | [a,b]=>64*((a.toNat:Int) - 192)+b.toNat - 128
 | [a,b,c]=>4096*((a.toNat:Int) - 224)+64*((b.toNat:Int) - 128)+c.toNat - 128
 | [a,b,c,d]=>262144*((a.toNat:Int) - 240)+4096*((b.toNat:Int) - 128)+64*((c.toNat:Int) - 128)+d.toNat - 128
 |_=> -1
def qcF (l:List UInt8):Int:=if qct (qrs l)∧frm (qrs l)=l then qrs l else -1
def qcC (l:List UInt8) (n:Nat):List UInt8:=l++List.replicate (n - l.length) 128
def qo3 (l:List UInt8):Prop:= ∃n,l.length<n∧n≤4∧(0≤qcF (qcC (l++[128]) n)∨0≤qcF (qcC (l++[191]) n))
theorem qqY (x:Int) (hp:qct x):qrs (frm x)=x:=by
 obtain⟨h0,h1,h2⟩:=hp;unfold frm
 split
 ·show((b8 x).toNat:Int)=x;exact qaT _ (by omega) (by omega)
 ·split
  ·show 64*(((b8 (192+x/64)).toNat:Int) - 192)+(b8 (128+x%64)).toNat - 128=x;rw[qaT _ (by omega) (by omega),qaT _ (by omega) (by omega)];omega
  ·split
   ·show 4096*(((b8 (224+x/4096)).toNat:Int) - 224)+64*(((b8 (128+x/64%64)).toNat:Int) - 128)+(b8 (128+x%64)).toNat - 128=x;rw[qaT _ (by omega) (by omega),qaT _ (by omega) (by omega),qaT _ (by omega) (by omega)];omega
   ·show 262144*(((b8 (240+x/262144)).toNat:Int) - 240)+4096*(((b8 (128+x/4096%64)).toNat:Int) - 128)+64*(((b8 (128+x/64%64)).toNat:Int) - 128)+(b8 (128+x%64)).toNat - 128=x;rw[qaT _ (by omega) (by omega),qaT _ (by omega) (by omega),qaT _ (by omega) (by omega),qaT _ (by omega) (by omega)];omega
theorem ql6 (x:Int) (hp:qct x):qcF (frm x)=x:=by
 unfold qcF;rw[qqY x hp,if_pos ⟨hp,rfl⟩]
theorem qo2 (l:List UInt8) (h:0≤qcF l):qct (qcF l)∧frm (qcF l)=l:=by
 unfold qcF at h⊢
 split
 ·rename_i c;exact c
 ·rename_i c;rw[if_neg c] at h;omega
theorem qqj (l:List UInt8) (n:Nat) (hn:n≤l.length) (h:0≤qcF (l.take n)):dec l=(qcF (l.take n),(n:Int),0):=by
 obtain⟨h1,h2⟩:=qo2 _ h;have hl:l=frm (qcF (l.take n))++l.drop n:=by rw[h2];exact(List.take_append_drop n l).symm
 have:=qj2 _ h1 (l.drop n);rw[←hl] at this;rw[this,h2];simp;omega
theorem qnC (l:List UInt8) (n:Nat) (hn:n≤l.length): ∀(m i:Nat) (x:Int),m=n - i→(∀j,i≤j→j<n→qeF l j=false)→ ∃y,decl l n i x=(y,(n:Int),0):=by
 intro m
 induction m with
 |zero=>intro i x hm _;exact⟨x,qbz _ _ _ _ (by omega)⟩
 |succ m ih=>
  intro i x hm hb;rw[qaN _ _ _ _ (by omega) (by omega) (hb i (Nat.le_refl _) (by omega))];exact ih (i+1) _ (by omega) (fun j h1 h2=>hb j (by omega) h2)
theorem qop (l:List UInt8) (n:Nat) (hn:l.length<n): ∀(m i:Nat) (x:Int),m=l.length - i→i≤l.length→(∀j,i≤j→j<l.length→qeF l j=false)→decl l n i x=(0,0,10):=by
 intro m
 induction m with
 |zero=>intro i x hm hi _;exact qch _ _ _ _ (by omega) (by omega)
 |succ m ih=>
  intro i x hm hi hb;rw[qaN _ _ _ _ (by omega) (by omega) (hb i (Nat.le_refl _) (by omega))];exact ih (i+1) _ (by omega) (by omega) (fun j h1 h2=>hb j (by omega) h2)
theorem qrM (l:List UInt8) (n:Nat): ∀(m i:Nat) (x y k:Int),m=n - i→i≤n→decl l n i x=(y,k,0)→k=n∧n≤max l.length i∧ ∀j,i≤j→j<n→qeF l j=false:=by
 intro m
 induction m with
 |zero=>intro i x y k hm hi h;exact⟨(qgx (by omega) h).2,by omega,fun j h1 h2=>by omega⟩
 |succ m ih=>
  intro i x y k hm hi h;obtain⟨h1,h2,h3⟩:=qcH (by omega) h;obtain⟨a,b,c⟩:=ih (i+1) _ y k (by omega) (by omega) h3;refine⟨a,by omega,fun j g1 g2=>?_⟩
  by_cases e:j=i
  ·rw[e];exact h2
  ·exact c j (by omega) g2
theorem qlL (l:List UInt8) (n:Nat): ∀(m i:Nat) (x:Int),m=n - i→i≤l.length→(∃y,decl l n i x=(y,(n:Int),0))∨decl l n i x=(0,0,11)∨(decl l n i x=(0,0,10)∧l.length<n∧ ∀j,i≤j→j<l.length→qeF l j=false):=by
 intro m
 induction m with
 |zero=>intro i x hm _;exact .inl ⟨x,qbz _ _ _ _ (by omega)⟩
 |succ m ih=>
  intro i x hm hi
  by_cases hl:i<l.length
  ·cases hb:qeF l i with
   |true=>exact .inr (.inl (qfD _ _ _ _ (by omega) hl hb))
   |false=>
    rw[qaN _ _ _ _ (by omega) hl hb];rcases ih (i+1) (x*64+gi l i%64) (by omega) (by omega)with h|h|⟨h1,h2,h3⟩
    ·exact .inl h
    ·exact .inr (.inl h)
    ·refine .inr (.inr ⟨h1,h2,fun j g1 g2=>?_⟩)
     by_cases e:j=i
     ·rw[e];exact hb
     ·exact h3 j (by omega) g2
  ·exact .inr (.inr ⟨qch _ _ _ _ (by omega) hl,by omega,fun j _ _=>by omega⟩)
theorem qe9 (l r:List UInt8) (i:Nat) (h:i<l.length):gi (l++r) i=gi l i:=by
 unfold gi;rw[List.getD_eq_getElem?_getD,List.getD_eq_getElem?_getD,List.getElem?_append_left h]
theorem qrt (l r:List UInt8) (i:Nat) (h:i<l.length):qeF (l++r) i=qeF l i:=by
 unfold qeF;rw[qe9 l r i h,qe9 l r 0 (by omega)]
theorem qcS (l:List UInt8) (h:l≠[]) (n:Nat) (hn:hdn (gi l 0)=n) (h0:n≠0):dec l=decl l n 1 (hdx (gi l 0)):=by
 unfold dec;rw[if_neg h,if_neg (by omega),hn]
theorem qf0 (l:List UInt8) (h:l≠[]) (hn:hdn (gi l 0)=0):dec l=(0,0,11):=by
 unfold dec;rw[if_neg h,if_pos hn]
theorem qfs {l:List UInt8} (h:l≠[]):1≤l.length:=by
 cases l with
 |nil=>exact absurd rfl h
 |cons=>simp
theorem qqF (l:List UInt8) (h:l≠[]):(∃x n,dec l=(x,n,0))∨dec l=(0,0,11)∨dec l=(0,0,10):=by
 by_cases hn:hdn (gi l 0)=0
 ·exact .inr (.inl (qf0 l h hn))
 ·rw[qcS l h _ rfl hn];rcases qlL l (hdn (gi l 0)) _ 1 (hdx (gi l 0)) rfl (qfs h)with ⟨y,h⟩|h|⟨h,_⟩
  ·exact .inl ⟨_,_,h⟩
  ·exact .inr (.inl h)
  ·exact .inr (.inr h)
theorem qou (l:List UInt8) (h:l≠[]) (hd:dec l=(0,0,10)):l.length<hdn (gi l 0)∧ ∀j,1≤j→j<l.length→qeF l j=false:=by
 by_cases hn:hdn (gi l 0)=0
 ·rw[qf0 l h hn] at hd;simp at hd
 ·rw[qcS l h _ rfl hn] at hd;rcases qlL l (hdn (gi l 0)) _ 1 (hdx (gi l 0)) rfl (qfs h)with ⟨y,e⟩|e|⟨_,e⟩
  ·rw[e] at hd;simp at hd
  ·rw[e] at hd;simp at hd
  ·exact e
theorem qkW (l:List UInt8) (n:Nat) (h:l.length≤n):(qcC l n).length=n:=by
 unfold qcC;simp;omega
theorem qsd (l:List UInt8) (n i:Nat) (h:l.length≤i) (h2:i<n):gi (qcC l n) i=128:=by
 unfold gi qcC;rw[List.getD_eq_getElem?_getD,List.getElem?_append_right h,List.getElem?_replicate,if_pos (by omega)];rfl
theorem qp4 (l:List UInt8) (b:UInt8):gi (l++[b]) l.length=b.toNat:=by
 unfold gi;rw[List.getD_eq_getElem?_getD,List.getElem?_append_right (Nat.le_refl _)];simp
theorem qsu (l:List UInt8) (h:l≠[]) (hd:dec l=(0,0,10)):l.length<4∧qo3 l:=by
 obtain⟨h1,h2⟩:=qou l h hd;have h4:=qlS (gi l 0);have hl:=qfs h
 obtain⟨b,hb,hbs⟩: ∃b:UInt8,(b=128∨b=191)∧(l.length=1→sec (gi l 0) b.toNat=true):=by
  by_cases c:gi l 0=224∨gi l 0=240
  ·exact⟨191,.inr rfl,fun _=>by apply qdX<;>first|(intro;decide)|decide|(intro;omega)⟩
  ·exact⟨128,.inl rfl,fun _=>by apply qdX<;>first|(intro;decide)|decide|(intro;omega)⟩
 have key:0≤qcF (qcC (l++[b]) (hdn (gi l 0))):=by
  have hpl:(qcC (l++[b]) (hdn (gi l 0))).length=hdn (gi l 0):=qkW _ _ (by simp;omega);have hne:qcC (l++[b]) (hdn (gi l 0))≠[]:=fun e=>by rw[e] at hpl;simp at hpl;omega
  have hg: ∀i,i<l.length→gi (qcC (l++[b]) (hdn (gi l 0))) i=gi l i:=fun i hi=>by
   unfold qcC;rw[qe9 _ _ _ (by simp;omega),qe9 _ _ _ hi]
  have hg2:gi (qcC (l++[b]) (hdn (gi l 0))) l.length=b.toNat:=by
   unfold qcC;rw[qe9 _ _ _ (by simp),qp4]
  have h0:=hg 0 (by omega);have hbb:128≤(b.toNat:Int)∧(b.toNat:Int)<192:=by rcases hb with rfl|rfl<;>decide
  obtain⟨y,hy⟩:=qnC (qcC (l++[b]) (hdn (gi l 0))) (hdn (gi l 0)) (by omega) _ 1 (hdx (gi l 0)) rfl (fun j g1 g2=>by
   by_cases e1:j<l.length
   ·rw[←h2 j g1 e1];unfold qeF;rw[h0,hg j e1]
   ·by_cases e2:j=l.length
    ·subst e2
     by_cases e3:l.length=1
     ·rw[e3] at hg2⊢;exact qdF _ (by rw[h0,hg2];exact hbs e3)
     ·exact qd5 _ _ e3 (by rw[hg2];exact hbb.1) (by rw[hg2];exact hbb.2)
    ·have e4:=qsd (l++[b]) (hdn (gi l 0)) j (by simp;omega) g2
     exact qd5 _ _ (by omega) (by rw[e4];omega) (by rw[e4];omega))
  have hd2:dec (qcC (l++[b]) (hdn (gi l 0)))=(y,((hdn (gi l 0):Nat):Int),0):=by
   rw[qcS _ hne (hdn (gi l 0)) (by rw[h0]) (by omega),h0];exact hy
  obtain⟨p1,p2,t,p3⟩:=qoJ _ _ _ hd2
  have ht:t=[]:=by
   have:=congrArg List.length p3;rw[hpl,List.length_append] at this;exact List.eq_nil_of_length_eq_zero (by omega)
  rw[p3,ht,List.append_nil,ql6 y p1];exact p1.1
 refine⟨by omega,hdn (gi l 0),h1,h4,?_⟩;rcases hb with rfl|rfl
 ·exact .inl key
 ·exact .inr key
theorem qsq (l:List UInt8) (h:l≠[]) (hb:qo3 l):dec l=(0,0,10):=by
 obtain⟨n,h1,h2,h3⟩:=hb
 obtain⟨b,hv⟩: ∃b:UInt8,0≤qcF (qcC (l++[b]) n):=by
  rcases h3 with h3|h3
  ·exact⟨_,h3⟩
  ·exact⟨_,h3⟩
 have hl:=qfs h;have hpl:(qcC (l++[b]) n).length=n:=qkW _ _ (by simp;omega);obtain⟨r,hr⟩: ∃r,qcC (l++[b]) n=l++r:=⟨[b]++List.replicate (n - (l++[b]).length) 128,by unfold qcC;simp⟩;obtain⟨p1,p2⟩:=qo2 _ hv;have hd:=qj2 _ p1 [];rw[List.append_nil,p2,hpl] at hd;have hne:qcC (l++[b]) n≠[]:=fun e=>by rw[e] at hpl;simp at hpl;omega
 rw[hr] at hd hne;have h0:gi (l++r) 0=gi l 0:=qe9 _ _ _ (by omega)
 by_cases hn:hdn (gi l 0)=0
 ·rw[qf0 _ hne (by rw[h0,hn])] at hd;simp at hd
 ·rw[qcS _ hne (hdn (gi l 0)) (by rw[h0]) hn] at hd;obtain⟨q1,q2,q3⟩:=qrM (l++r) (hdn (gi l 0)) _ 1 _ _ _ rfl (by omega) hd;rw[qcS l h _ rfl hn];exact qop l _ (by omega) _ 1 _ rfl hl (fun j g1 g2=>by rw[←qrt l r j g2];exact q3 j g1 (by omega))
theorem qsg (l:List UInt8) (h:l≠[]) (hv: ∀n,1≤n→n≤4→n≤l.length→ ¬0≤qcF (l.take n)):(l.length<4∧qo3 l→dec l=(0,0,10))∧(¬(l.length<4∧qo3 l)→dec l=(0,0,11)):=by
 refine⟨fun hb=>qsq l h hb.2,fun hb=>?_⟩;rcases qqF l h with ⟨x,n,e⟩|e|e
 ·obtain⟨p1,p2,t,p3⟩:=qoJ _ _ _ e;exfalso;refine hv (frm x).length (qeA x) (qpF x) (by rw[p3];simp) ?_;have:l.take (frm x).length=frm x:=by rw[p3];simp
  rw[this,ql6 x p1];exact p1.1
 ·exact e
 ·exact absurd (qsu l h e) hb
theorem qbk (x:Int) (b:Bool) (h:decide (qct x)=b) (w:World):Calls Tryz.prog 289 #[.int .i64 x] w fun e w'=>e= .returned (.bool b)∧w=w':=by
 have:=qi1 x w;rwa[h] at this
theorem qdV {w:World} {v:Value} {l:List UInt8} (h:Row w v (l.map qax)) (hl:1≤l.length):(convert 78 9 v).run Tryz.prog w= .ok (.string ⟨l.toArray⟩) w:=by
 rcases h with ⟨a,c,_,rfl,h0⟩|⟨b,off,cap,rfl,_,_,_,hc⟩
 ·obtain rfl:l=[]:=by simpa using h0
  simp at hl
 ·rw[show(l.map qax).length=l.length by simp];refine run_convert_bytes_back w 78 9 5 ⟨b,off,none⟩ cap l Tryz.underlying78 Tryz.underlying5 Tryz.underlying9 (fun j hj=>?_);rw[show(⟨b,off,none⟩:Addr).add j=⟨b,off+j,none⟩ by simp[Addr.add],hc j (by simpa using hj)];simp[qax]
theorem toList_data (s:ByteArray):s.toList=s.data.toList:=ByteArray.toList_eq s
theorem qdN (l:List UInt8) (s:ByteArray) (h: ¬l=s.data.toList):(l==s.toList)=false:=by
 rw[toList_data,beq_eq_false_iff_ne];exact h
theorem qdU (l:List UInt8) (s:ByteArray) (h:l=s.data.toList):(⟨l.toArray⟩:ByteArray)=s:=by
 rw[h]
theorem qcD {w w3:World} {n:Nat} (h:Below (w.drewN n).heap.size (w.drewN n) w3):Below w.heap.size w w3:=(below_drewN (Below.refl _ w) n).trans (h.mono (by simp))
def qs6 (r:Int) (w:World) (e:Ending) (w':World):Prop:=e= .returned (.int .i64 r)∧Below w.heap.size w w'
theorem qrw (s:ByteArray) (x:Int) (hs:s.size=1) (a:Int) (ha:byt s 0=a) (hx:x=a) (w:World):
 Calls Tryz.prog 268 #[.string s] w (qs6 (if qct x∧frm x=s.data.toList then x else -1) w):=by
 obtain⟨R,hR⟩: ∃R:Int,Hid (R=if qct x∧frm x=s.data.toList then x else -1):=⟨_,rfl⟩;rw[←hR.out];have la:=qbP s 0;have ua:=qb2 s 0;have hB0:=qa9 s 0 (by omega);rw[ha] at la ua hB0;have z1:((s.size:Int)==1)=true:=by rw[hs];rfl
 have z2:((s.size:Int)==2)=false:=by rw[hs];rfl
 have z3:((s.size:Int)==3)=false:=by rw[hs];rfl
 have z4:((s.size:Int)==4)=false:=by rw[hs];rfl
 have g0:0<s.size:=by omega
 replace hs:=Lh hs;replace ha:=Lh ha;subst hx
 by_cases hp:qct x
 ·have hpt:=Lh hp;clear hp;go_enter Tryz.func268,Tryz.ntmps268;go_wp2_with fail;refine(qbk x true (dT hpt.out) _).mono ?_;rintro e w2 ⟨rfl,rfl⟩;go_wp2_with fail;refine(qdO x hpt.out _).mono ?_;rintro e w3 ⟨⟨v3,rfl,hr3⟩,hb3⟩;have hcv:=qdV hr3 (qeA x);replace hr3:=Lh hr3
  by_cases hq:frm x=s.data.toList
  ·have hsq:=qdU _ _ hq;rw[hsq] at hcv;have hr:R=x:=by rw[hR.out,if_pos ⟨hpt.out,hq⟩]
   subst hr;replace hq:=Lh hq;replace hsq:=Lh hsq;go_wp2_with fail;go_ret;exact⟨rfl,hb3⟩
  ·have hsq:=qdN _ _ hq;have hr:R= -1:=by rw[hR.out,if_neg (fun h=>hq h.2)]
   subst hr;replace hq:=Lh hq;go_wp2_with fail;go_ret;exact⟨rfl,hb3⟩
 ·have hr:R= -1:=by rw[hR.out,if_neg (fun h=>hp h.1)]
  subst hr;have hpt:=Lh hp;clear hp;go_enter Tryz.func268,Tryz.ntmps268;go_wp2_with fail;refine(qbk x false (dF hpt.out) _).mono ?_;rintro e w2 ⟨rfl,rfl⟩;go_wp2_with fail;go_ret;exact⟨rfl,Below.refl _ _⟩
theorem qpK (s:ByteArray) (x:Int) (hs:s.size=2) (a b:Int) (ha:byt s 0=a) (hb:byt s 1=b) (hx:x=64*(a - 192)+b - 128) (w:World):
 Calls Tryz.prog 268 #[.string s] w (qs6 (if qct x∧frm x=s.data.toList then x else -1) w):=by
 obtain⟨R,hR⟩: ∃R:Int,Hid (R=if qct x∧frm x=s.data.toList then x else -1):=⟨_,rfl⟩;rw[←hR.out];have la:=qbP s 0;have ua:=qb2 s 0;have hB0:=qa9 s 0 (by omega);rw[ha] at la ua hB0;have lb:=qbP s 1;have ub:=qb2 s 1;have hB1:=qa9 s 1 (by omega);rw[hb] at lb ub hB1;have z1:((s.size:Int)==1)=false:=by rw[hs];rfl
 have z2:((s.size:Int)==2)=true:=by rw[hs];rfl
 have z3:((s.size:Int)==3)=false:=by rw[hs];rfl
 have z4:((s.size:Int)==4)=false:=by rw[hs];rfl
 have g0:0<s.size:=by omega
 have g1:1<s.size:=by omega
 replace hs:=Lh hs;replace ha:=Lh ha;replace hb:=Lh hb;have hX:=Lh hx;have hxs:64*(a - 192)+b - 128=x:=hx.symm;clear hx
 by_cases hp:qct x
 ·have hpt:=Lh hp;clear hp;go_enter Tryz.func268,Tryz.ntmps268;go_wp2_with fail;go_quiet (fail);go_wp2_with fail;refine(qbk x true (dT hpt.out) _).mono ?_;rintro e w2 ⟨rfl,rfl⟩;go_wp2_with fail;refine(qdO x hpt.out _).mono ?_;rintro e w3 ⟨⟨v3,rfl,hr3⟩,hb3⟩;have hcv:=qdV hr3 (qeA x);replace hr3:=Lh hr3;replace hb3:=qcD hb3
  by_cases hq:frm x=s.data.toList
  ·have hsq:=qdU _ _ hq;rw[hsq] at hcv;have hr:R=x:=by rw[hR.out,if_pos ⟨hpt.out,hq⟩]
   subst hr;replace hq:=Lh hq;replace hsq:=Lh hsq;go_wp2_with fail;go_ret;exact⟨rfl,hb3⟩
  ·have hsq:=qdN _ _ hq;have hr:R= -1:=by rw[hR.out,if_neg (fun h=>hq h.2)]
   subst hr;replace hq:=Lh hq;go_wp2_with fail;go_ret;exact⟨rfl,hb3⟩
 ·have hr:R= -1:=by rw[hR.out,if_neg (fun h=>hp h.1)]
  subst hr;have hpt:=Lh hp;clear hp;go_enter Tryz.func268,Tryz.ntmps268;go_wp2_with fail;go_quiet (fail);go_wp2_with fail;refine(qbk x false (dF hpt.out) _).mono ?_;rintro e w2 ⟨rfl,rfl⟩;go_wp2_with fail;go_ret;exact⟨rfl,below_drewN (Below.refl _ _) _⟩
theorem qpn (s:ByteArray) (x:Int) (hs:s.size=3) (a b c:Int) (ha:byt s 0=a) (hb:byt s 1=b) (hc:byt s 2=c) (hx:x=4096*(a - 224)+64*(b - 128)+c - 128) (w:World):
 Calls Tryz.prog 268 #[.string s] w (qs6 (if qct x∧frm x=s.data.toList then x else -1) w):=by
 obtain⟨R,hR⟩: ∃R:Int,Hid (R=if qct x∧frm x=s.data.toList then x else -1):=⟨_,rfl⟩;rw[←hR.out];have la:=qbP s 0;have ua:=qb2 s 0;have hB0:=qa9 s 0 (by omega);rw[ha] at la ua hB0;have lb:=qbP s 1;have ub:=qb2 s 1;have hB1:=qa9 s 1 (by omega);rw[hb] at lb ub hB1;have lc:=qbP s 2;have uc:=qb2 s 2;have hB2:=qa9 s 2 (by omega);rw[hc] at lc uc hB2;have z1:((s.size:Int)==1)=false:=by rw[hs];rfl
 have z2:((s.size:Int)==2)=false:=by rw[hs];rfl
 have z3:((s.size:Int)==3)=true:=by rw[hs];rfl
 have z4:((s.size:Int)==4)=false:=by rw[hs];rfl
 have g0:0<s.size:=by omega
 have g1:1<s.size:=by omega
 have g2:2<s.size:=by omega
 replace hs:=Lh hs;replace ha:=Lh ha;replace hb:=Lh hb;replace hc:=Lh hc;have hX:=Lh hx;have hxs:4096*(a - 224)+64*(b - 128)+c - 128=x:=hx.symm;clear hx
 by_cases hp:qct x
 ·have hpt:=Lh hp;clear hp;go_enter Tryz.func268,Tryz.ntmps268;go_wp2_with fail;go_quiet (fail);go_wp2_with fail;refine(qbk x true (dT hpt.out) _).mono ?_;rintro e w2 ⟨rfl,rfl⟩;go_wp2_with fail;refine(qdO x hpt.out _).mono ?_;rintro e w3 ⟨⟨v3,rfl,hr3⟩,hb3⟩;have hcv:=qdV hr3 (qeA x);replace hr3:=Lh hr3;replace hb3:=qcD hb3
  by_cases hq:frm x=s.data.toList
  ·have hsq:=qdU _ _ hq;rw[hsq] at hcv;have hr:R=x:=by rw[hR.out,if_pos ⟨hpt.out,hq⟩]
   subst hr;replace hq:=Lh hq;replace hsq:=Lh hsq;go_wp2_with fail;go_ret;exact⟨rfl,hb3⟩
  ·have hsq:=qdN _ _ hq;have hr:R= -1:=by rw[hR.out,if_neg (fun h=>hq h.2)]
   subst hr;replace hq:=Lh hq;go_wp2_with fail;go_ret;exact⟨rfl,hb3⟩
 ·have hr:R= -1:=by rw[hR.out,if_neg (fun h=>hp h.1)]
  subst hr;have hpt:=Lh hp;clear hp;go_enter Tryz.func268,Tryz.ntmps268;go_wp2_with fail;go_quiet (fail);go_wp2_with fail;refine(qbk x false (dF hpt.out) _).mono ?_;rintro e w2 ⟨rfl,rfl⟩;go_wp2_with fail;go_ret;exact⟨rfl,below_drewN (Below.refl _ _) _⟩
theorem qqC (s:ByteArray) (x:Int) (hs:s.size=4) (a b c d:Int) (ha:byt s 0=a) (hb:byt s 1=b) (hc:byt s 2=c) (hd:byt s 3=d) (hx:x=262144*(a - 240)+4096*(b - 128)+64*(c - 128)+d - 128) (w:World):
 Calls Tryz.prog 268 #[.string s] w (qs6 (if qct x∧frm x=s.data.toList then x else -1) w):=by
 obtain⟨R,hR⟩: ∃R:Int,Hid (R=if qct x∧frm x=s.data.toList then x else -1):=⟨_,rfl⟩;rw[←hR.out];have la:=qbP s 0;have ua:=qb2 s 0;have hB0:=qa9 s 0 (by omega);rw[ha] at la ua hB0;have lb:=qbP s 1;have ub:=qb2 s 1;have hB1:=qa9 s 1 (by omega);rw[hb] at lb ub hB1;have lc:=qbP s 2;have uc:=qb2 s 2;have hB2:=qa9 s 2 (by omega);rw[hc] at lc uc hB2;have ld:=qbP s 3;have ud:=qb2 s 3;have hB3:=qa9 s 3 (by omega);rw[hd] at ld ud hB3;have z1:((s.size:Int)==1)=false:=by rw[hs];rfl
 have z2:((s.size:Int)==2)=false:=by rw[hs];rfl
 have z3:((s.size:Int)==3)=false:=by rw[hs];rfl
 have z4:((s.size:Int)==4)=true:=by rw[hs];rfl
 have g0:0<s.size:=by omega
 have g1:1<s.size:=by omega
 have g2:2<s.size:=by omega
 have g3:3<s.size:=by omega
 replace hs:=Lh hs;replace ha:=Lh ha;replace hb:=Lh hb;replace hc:=Lh hc;replace hd:=Lh hd;have hX:=Lh hx;have hxs:262144*(a - 240)+4096*(b - 128)+64*(c - 128)+d - 128=x:=hx.symm;clear hx
 by_cases hp:qct x
 ·have hpt:=Lh hp;clear hp;go_enter Tryz.func268,Tryz.ntmps268;go_wp2_with fail;go_quiet (fail);go_wp2_with fail;refine(qbk x true (dT hpt.out) _).mono ?_;rintro e w2 ⟨rfl,rfl⟩;go_wp2_with fail;refine(qdO x hpt.out _).mono ?_;rintro e w3 ⟨⟨v3,rfl,hr3⟩,hb3⟩;have hcv:=qdV hr3 (qeA x);replace hr3:=Lh hr3;replace hb3:=qcD hb3
  by_cases hq:frm x=s.data.toList
  ·have hsq:=qdU _ _ hq;rw[hsq] at hcv;have hr:R=x:=by rw[hR.out,if_pos ⟨hpt.out,hq⟩]
   subst hr;replace hq:=Lh hq;replace hsq:=Lh hsq;go_wp2_with fail;go_ret;exact⟨rfl,hb3⟩
  ·have hsq:=qdN _ _ hq;have hr:R= -1:=by rw[hR.out,if_neg (fun h=>hq h.2)]
   subst hr;replace hq:=Lh hq;go_wp2_with fail;go_ret;exact⟨rfl,hb3⟩
 ·have hr:R= -1:=by rw[hR.out,if_neg (fun h=>hp h.1)]
  subst hr;have hpt:=Lh hp;clear hp;go_enter Tryz.func268,Tryz.ntmps268;go_wp2_with fail;go_quiet (fail);go_wp2_with fail;refine(qbk x false (dF hpt.out) _).mono ?_;rintro e w2 ⟨rfl,rfl⟩;go_wp2_with fail;go_ret;exact⟨rfl,below_drewN (Below.refl _ _) _⟩
theorem qbE (s:ByteArray) (l:List UInt8) (h:s.data.toList=l) (k:Nat):byt s k=((l.getD k 0).toNat:Int):=by unfold byt;rw[h]
theorem qkV (s:ByteArray) (h1:1≤s.size) (h4:s.size≤4) (w:World):Calls Tryz.prog 268 #[.string s] w (qs6 (qcF s.data.toList) w):=by
 have hz:=qb5 s;obtain⟨l,hl⟩: ∃l,s.data.toList=l:=⟨_,rfl⟩;have hv:qcF s.data.toList=if qct (qrs l)∧frm (qrs l)=s.data.toList then qrs l else -1:=by rw[hl];rfl
 rw[hv];rw[hl] at hz
 match l,hl with
 | [],hl=>exact absurd (show s.size=0 from hz) (by omega)
 | [a],hl=>exact qrw s _ (by simpa using hz) _ (qbE s _ hl 0) rfl w
 | [a,b],hl=>exact qpK s _ (by simpa using hz) _ _ (qbE s _ hl 0) (qbE s _ hl 1) rfl w
 | [a,b,c],hl=>exact qpn s _ (by simpa using hz) _ _ _ (qbE s _ hl 0) (qbE s _ hl 1) (qbE s _ hl 2) rfl w
 | [a,b,c,d],hl=>exact qqC s _ (by simpa using hz) _ _ _ _ (qbE s _ hl 0) (qbE s _ hl 1) (qbE s _ hl 2) (qbE s _ hl 3) rfl w
 |a::b::c::d::e::t,hl=>rw[List.length_cons,List.length_cons,List.length_cons,List.length_cons,List.length_cons] at hz;omega
theorem qfy (s:ByteArray) (h1:1≤s.size) (h4:s.size≤4) (x:Int) (hx:qcF s.data.toList=x) (w:World):Calls Tryz.prog 268 #[.string s] w fun e w'=>e= .returned (.int .i64 x)∧Below w.heap.size w w':=by
 rw[←hx];exact qkV s h1 h4 w
theorem qh4 (w:World) (c:UInt8) (n:Int) (h:n=c.toNat):(convert 78 9 (.slice (some ⟨w.heap.size,0,none⟩) 1 1)).run Tryz.prog (w.alloc (.cells #[.int .u8 n] 5))= .ok (.string ⟨#[c]⟩) (w.alloc (.cells #[.int .u8 n] 5)):=by
 subst h
 exact run_convert_bytes_back (w.alloc (.cells #[.int .u8 (c.toNat:Int)] 5)) 78 9 5 ⟨w.heap.size,0,none⟩ 1 [c] Tryz.underlying78 Tryz.underlying5 Tryz.underlying9 (fun j hj=>by
  obtain rfl:j=0:=by simpa using hj
  simp[Addr.add,go_sem])
def qul (l:List UInt8) (n:Nat):Prop:= ∀m,l.length<m→m<n→ ¬0≤qcF (qcC (l++[128]) m)∧ ¬0≤qcF (qcC (l++[191]) m)
theorem qdK (s t:ByteArray):(s++t).data.toList=s.data.toList++t.data.toList:=by simp
theorem qdM (s t:ByteArray):(s++t).size=s.size+t.size:=by simp
def qut (P:Prop) (w:World) (e:Ending) (w':World):Prop:= ∃b,e= .returned (.bool b)∧(b=true↔P)∧Below w.heap.size w w'
def quk (l:List UInt8) (b:UInt8) (n:Nat) (s5:Value) (g:Nat):Prop:= ∃t:ByteArray,s5= .string t∧t.size+g=n∧l.length<t.size∧t.data.toList=qcC (l++[b]) t.size
theorem qim (l:List UInt8) (n:Nat) (h:l.length≤n):qcC l (n+1)=qcC l n++[128]:=by
 unfold qcC;rw[show n+1 - l.length=(n - l.length)+1 by omega,List.replicate_succ',List.append_assoc]
theorem qiq (l:List UInt8):qcC l l.length=l:=by unfold qcC;simp
theorem qjd (s:ByteArray) (h1:1≤s.size) (h3:s.size≤3) (w:World):
 Calls Tryz.prog 269 #[.string s] w (qut (qo3 s.data.toList) w):=by
 obtain⟨l,hl⟩: ∃l,Hid (s.data.toList=l):=⟨_,rfl⟩;have hz:Hid (s.size=l.length):=by show s.size=_;rw[qb5 s,hl.out]
 rw[hl.out];have k8:=fun (W:World)=>qh4 W 128 128 rfl
 have k9:=fun (W:World)=>qh4 W 191 191 rfl
 go_enter Tryz.func269,Tryz.ntmps269;go_wp2_with fail;go_loopg [3] (5 - s.size) (fun g s3 wr=> ∃n:Nat,s.size<n∧n≤5∧n+g=6∧s3= .int .i64 n∧Hid (qul l n)∧Below w.heap.size w wr)
 case atStart=>exact⟨s.size+1,by omega,by omega,by omega,by go_num,fun m a b=>by have:=hz.out;omega,Below.refl _ _⟩
 case round=>
  obtain⟨n,hn1,hn2,hg,rfl,hbn,hb⟩:=hrel
  by_cases hn4:n≤4
  ·have t1:decide ((n:Int)≤4)=true:=dT (by omega);go_wp2_with fail;go_loopg [4] 2 (fun g s4 wi=> ∃i:Nat,i≤2∧i+g=2∧s4= .int .i64 i∧Hid (qul l n)∧Hid (1≤i→ ¬0≤qcF (qcC (l++[128]) n))∧Hid (2≤i→ ¬0≤qcF (qcC (l++[191]) n))∧Below w.heap.size w wi)
   case atStart=>exact⟨0,by omega,by omega,rfl,hbn,fun h=>by omega,fun h=>by omega,hb⟩
   case round=>
    obtain⟨i,hi1,hi2,rfl,hbn,hv1,hv2,hb⟩:=hrel;rcases(show i=0∨i=1∨i=2 by omega)with rfl|rfl|rfl
    ·have t2:decide (((0:Nat):Int)<2)=true:=by decide
     rw[show((0:Nat):Int)=0 from rfl];have q0:IntKind.u8.wrap 128=128:=by decide
     go_wp2_with fail;go_loopg [5] (n - (s.size+1)) (fun g s5 wp=>Hid (quk l 128 n s5 g)∧Below w.heap.size w wp)
     case atStart=>
      have e1:(s++⟨#[128]⟩:ByteArray).size=s.size+1:=qdM s ⟨#[128]⟩;refine⟨⟨_,rfl,by omega,by have:=hz.out;omega,?_⟩,hb.alloc hb.size _⟩;rw[e1,hz.out,qdK,hl.out];exact(by have:=qiq (l++[128]);rw[List.length_append] at this;exact this.symm)
     case round=>
      obtain⟨hp,hb⟩:=hrel;obtain⟨t,rfl,ht1,ht2,ht3⟩:=hp.out;have hT:=Lh ht3;clear ht3 hp
      by_cases hlt:t.size<n
      ·have t3:decide (t.size<n)=true:=dT hlt;go_wp2_with fail;go_roundg (gk - 1)
       case measure=>omega
       case rel=>
        have e1:(t++⟨#[128]⟩:ByteArray).size=t.size+1:=qdM t ⟨#[128]⟩;refine⟨⟨_,rfl,by omega,by omega,?_⟩,hb.alloc hb.size _⟩;rw[e1,qdK,hT.out,qim _ _ (by simp;omega)]
      ·obtain hte:t.size=n:=by omega
       have t3:decide (t.size<n)=false:=dF hlt;obtain⟨v,hv⟩: ∃v,Hid (qcF t.data.toList=v):=⟨qcF t.data.toList,rfl⟩;have hpv:Hid (qcF (qcC (l++[128]) n)=v):=by show _=_;rw[←hv.out,hT.out,hte]
       have hcall:=Lh (fun W=>qfy t (by omega) (by omega) v hv.out W);replace hte:=Lh hte;go_wp2_with fail;refine(hcall.out _).mono ?_;rintro e w3 ⟨rfl,hb3⟩;replace hb:=qcm hb hb3
       by_cases hvp:0≤v
       ·have t4:decide (0≤v)=true:=dT hvp;go_wp2_with fail;go_ret;refine⟨true,rfl,⟨fun _=>⟨n,by have:=hz.out;omega,hn4,.inl (by rw[hpv.out];exact hvp)⟩,fun _=>rfl⟩,hb⟩
       ·have t4:decide (0≤v)=false:=dF hvp;go_wp2_with fail;go_roundg 1
        case measure=>omega
        case rel=>exact⟨1,by omega,by omega,rfl,hbn,fun _=>by rw[hpv.out];exact hvp,fun h=>by omega,hb⟩
    ·have t2:decide (((1:Nat):Int)<2)=true:=by decide
     rw[show((1:Nat):Int)=1 from rfl];have q1:IntKind.u8.wrap 191=191:=by decide
     go_wp2_with fail;go_loopg [5] (n - (s.size+1)) (fun g s5 wp=>Hid (quk l 191 n s5 g)∧Below w.heap.size w wp)
     case atStart=>
      have e1:(s++⟨#[191]⟩:ByteArray).size=s.size+1:=qdM s ⟨#[191]⟩;refine⟨⟨_,rfl,by omega,by have:=hz.out;omega,?_⟩,hb.alloc hb.size _⟩;rw[e1,hz.out,qdK,hl.out];exact(by have:=qiq (l++[191]);rw[List.length_append] at this;exact this.symm)
     case round=>
      obtain⟨hp,hb⟩:=hrel;obtain⟨t,rfl,ht1,ht2,ht3⟩:=hp.out;have hT:=Lh ht3;clear ht3 hp
      by_cases hlt:t.size<n
      ·have t3:decide (t.size<n)=true:=dT hlt;go_wp2_with fail;go_roundg (gk - 1)
       case measure=>omega
       case rel=>
        have e1:(t++⟨#[128]⟩:ByteArray).size=t.size+1:=qdM t ⟨#[128]⟩;refine⟨⟨_,rfl,by omega,by omega,?_⟩,hb.alloc hb.size _⟩;rw[e1,qdK,hT.out,qim _ _ (by simp;omega)]
      ·obtain hte:t.size=n:=by omega
       have t3:decide (t.size<n)=false:=dF hlt;obtain⟨v,hv⟩: ∃v,Hid (qcF t.data.toList=v):=⟨qcF t.data.toList,rfl⟩;have hpv:Hid (qcF (qcC (l++[191]) n)=v):=by show _=_;rw[←hv.out,hT.out,hte]
       have hcall:=Lh (fun W=>qfy t (by omega) (by omega) v hv.out W);replace hte:=Lh hte;go_wp2_with fail;refine(hcall.out _).mono ?_;rintro e w3 ⟨rfl,hb3⟩;replace hb:=qcm hb hb3
       by_cases hvp:0≤v
       ·have t4:decide (0≤v)=true:=dT hvp;go_wp2_with fail;go_ret;refine⟨true,rfl,⟨fun _=>⟨n,by have:=hz.out;omega,hn4,.inr (by rw[hpv.out];exact hvp)⟩,fun _=>rfl⟩,hb⟩
       ·have t4:decide (0≤v)=false:=dF hvp;go_wp2_with fail;go_roundg 0
        case measure=>omega
        case rel=>exact⟨2,by omega,by omega,rfl,hbn,fun _=>hv1.out (by omega),fun _=>by rw[hpv.out];exact hvp,hb⟩
    ·have t2:decide (((2:Nat):Int)<2)=false:=by decide
     rw[show((2:Nat):Int)=2 from rfl];go_wp2_with fail;go_roundg (5 - n)
     case measure=>omega
     case rel=>
      refine⟨n+1,by omega,by omega,by omega,by go_num,fun m a b=>?_,hb⟩
      by_cases e:m=n
      ·rw[e];exact⟨by have:=hv1.out (by omega);omega,by have:=hv2.out (by omega);omega⟩
      ·exact hbn.out m a (by omega)
  ·have t1:decide ((n:Int)≤4)=false:=dF (by omega);go_wp2_with fail;go_ret;refine⟨false,rfl,⟨(fun h=>by cases h),fun ⟨m,a,b,c⟩=>?_⟩,hb⟩;have:=hbn.out m a (by omega);rcases c with c|c
   ·exact absurd c this.1
   ·exact absurd c this.2
theorem qdA (s:ByteArray) (a b:Nat):(s.extract a b).data.toList=(s.data.toList.drop a).take (b - a):=by
 simp[ByteArray.data_extract,Array.toList_extract,List.extract]
theorem qed (s:ByteArray) (a b:Nat) (h:b≤s.size):(s.extract a b).size=b - a:=by
 rw[ByteArray.size_extract];omega
def qtm (r:Int×Int×Int) (w:World) (e:Ending) (w':World):Prop:=e= .returned (.tuple #[.int .i64 r.1,.int .i64 r.2.1,.int .i64 r.2.2])∧Below w.heap.size w w'
theorem qcK {r:Int×Int×Int} {w w':World} {e:Ending} {a b c:Int} (h:r=(a,b,c)) (he:e= .returned (.tuple #[.int .i64 a,.int .i64 b,.int .i64 c])) (hb:Below w.heap.size w w'):qtm r w e w':=by
 unfold qtm;rw[h];exact⟨he,hb⟩
theorem qjK (s:ByteArray) (h1:1≤s.size) (h3:s.size≤3) (l:List UInt8) (hl:s.data.toList=l) (w:World):
 Calls Tryz.prog 269 #[.string s] w (qut (qo3 l) w):=by rw[←hl];exact qjd s h1 h3 w
theorem ql1 (s:ByteArray) (hs:s.size≤4611686018427387904) (at':Int) (w:World):
 Calls Tryz.prog 249 #[.string s,.int .i64 at'] w (qtm (rd s at') w):=by
 by_cases c1:at'<0∨(s.size:Int)<at'
 ·have hr:Hid (rd s at'=(0,0,2)):=by show _=_;unfold rd;rw[if_pos c1]
  by_cases c2:at'<0
  ·have t1:decide (at'<0)=true:=dT c2;go_enter Tryz.func249,Tryz.ntmps249;go_wp2_with fail;go_ret3;exact qcK hr.out rfl (Below.refl _ _)
  ·have t1:decide (at'<0)=false:=dF c2;have t2:decide ((s.size:Int)<at')=true:=dT (by omega);go_enter Tryz.func249,Tryz.ntmps249;go_wp2_with fail;go_ret3;exact qcK hr.out rfl (Below.refl _ _)
 ·obtain⟨k,rfl⟩:=Int.eq_ofNat_of_zero_le (show 0≤at' by omega);have t1:decide ((k:Int)<0)=false:=dF (by omega);have t2:decide (s.size<k)=false:=dF (by omega)
  by_cases c2:k=s.size
  ·subst c2;have hr:Hid (rd s s.size=(0,0,6)):=by show _=_;unfold rd;rw[if_neg c1,if_pos rfl]
   go_enter Tryz.func249,Tryz.ntmps249;go_wp2_with fail;go_ret3;exact qcK hr.out rfl (Below.refl _ _)
  ·have hlt:k<s.size:=by omega
   have t3:((k:Int)==(s.size:Int))=false:=by simp;omega
   obtain⟨l,hl⟩: ∃l,Hid (s.data.toList.drop k=l):=⟨s.data.toList.drop k,rfl⟩;obtain⟨R,hR⟩: ∃R,Hid (R=rd s k):=⟨rd s k,rfl⟩;have hd:Hid (R=dec l):=by show _=_;rw[hR.out,rd_dec s k (by omega),hl.out]
   have hll:l.length=s.size - k:=by rw[←hl.out,List.length_drop,qb5]
   have hne:Hid (l≠[]):=fun e=>by rw[e] at hll;simp at hll;omega
   rw[←hR.out];clear c1 hR;go_enter Tryz.func249,Tryz.ntmps249;go_wp2_with fail;go_loopg [7] 4 (fun g s7 wr=> ∃n:Nat,1≤n∧n≤5∧n+g=5∧s7= .int .i64 n∧Hid (∀m,1≤m→m<n→m≤l.length→ ¬0≤qcF (l.take m))∧Below w.heap.size w wr)
   case atStart=>exact⟨1,by omega,by omega,by omega,rfl,(fun m a b=>by omega),Below.refl _ _⟩
   case round=>
    obtain⟨n,hn1,hn5,hg,rfl,hno,hb⟩:=hrel
    by_cases hn:n≤4∧k+n≤s.size
    ·obtain⟨hn4,hkn⟩:=hn;have t4:decide ((n:Int)≤4)=true:=dT (by omega);have t5:decide ((k:Int)+(n:Int)≤(s.size:Int))=true:=dT (by omega);have hx:(s.extract k (k+n)).data.toList=l.take n:=by rw[qdA,hl.out,Nat.add_sub_cancel_left]
     have hxs:(s.extract k (k+n)).size=n:=by rw[qed _ _ _ hkn];omega
     obtain⟨v,hv⟩: ∃v,Hid (qcF (l.take n)=v):=⟨qcF (l.take n),rfl⟩;have hcall:=Lh (fun W=>qfy (s.extract k (k+n)) (by omega) (by omega) v (by rw[hx];exact hv.out) W);clear hx hxs;go_wp2_with fail;refine(hcall.out _).mono ?_;rintro e w3 ⟨rfl,hb3⟩;replace hb:=qcm hb hb3
     by_cases hvp:0≤v
     ·have t6:decide (0≤v)=true:=dT hvp
      have hfin:Hid (R=(v,(n:Int),0)):=by
       show _=_;rw[hd.out,qqj l n (by omega) (by rw[hv.out];exact hvp),hv.out]
      go_wp2_with fail;go_ret3;exact qcK hfin.out rfl hb
     ·have t6:decide (0≤v)=false:=dF hvp;go_wp2_with fail;go_roundg (gk - 1)
      case measure=>omega
      case rel=>
       refine⟨n+1,by omega,by omega,by omega,by go_num,fun m a b c=>?_,hb⟩
       by_cases e:m=n
       ·rw[e,hv.out];exact hvp
       ·exact hno.out m a (by omega) c
    ·have hno2:Hid (∀m,1≤m→m≤4→m≤l.length→ ¬0≤qcF (l.take m)):=fun m a b c=>hno.out m a (by omega) c
     have t5:decide ((n:Int)≤4)=false∨decide ((n:Int)≤4)=true∧decide ((k:Int)+(n:Int)≤(s.size:Int))=false:=by
      by_cases h4:n≤4
      ·exact .inr ⟨dT (by omega),dF (by omega)⟩
      ·exact .inl (dF (by omega))
     have t7:IntKind.i64.wrap ((s.size:Int) - k)=(s.size:Int) - k:=by rw[IntKind.wrap_i64];omega
     obtain⟨r1,r2⟩:=qsg l hne.out hno2.out
     by_cases h4:l.length<4
     ·have t6:decide ((s.size:Int) - k<4)=true:=dT (by omega);have hx:(s.extract k s.size).data.toList=l:=by rw[qdA,hl.out,List.take_of_length_le (by omega)]
      have hxs:(s.extract k s.size).size=l.length:=by rw[qed _ _ _ (Nat.le_refl _)];omega
      have hpos:1≤l.length:=by omega
      have hcall:=Lh (fun W=>qjK (s.extract k s.size) (by omega) (by omega) l hx W);have r1':Hid (qo3 l→R=(0,0,10)):=fun h=>by rw[hd.out];exact r1 ⟨h4,h⟩
      have r2':Hid (¬qo3 l→R=(0,0,11)):=fun h=>by rw[hd.out];exact r2 (fun c=>h c.2)
      clear r1 r2 hx hxs;rcases t5 with t5|⟨t5,t5'⟩
      all_goals
       go_wp2_with fail;refine(hcall.out _).mono ?_;rintro e w3 ⟨b,rfl,hbb,hb3⟩;replace hb:=qcm hb hb3;replace hbb:=Lh hbb
       cases b with
       |true=>
        have hfin:=Lh (r1'.out (hbb.out.1 rfl));go_wp2_with fail;go_ret3;exact qcK hfin.out rfl hb
       |false=>
        have hfin:=Lh (r2'.out (fun c=>by have:=hbb.out.2 c;cases this));go_wp2_with fail;go_ret3;exact qcK hfin.out rfl hb
     ·have t6:decide ((s.size:Int) - k<4)=false:=dF (by omega)
      have hfin:Hid (R=(0,0,11)):=by
       show _=_;rw[hd.out];exact r2 (fun c=>h4 c.1)
      clear r1 r2;rcases t5 with t5|⟨t5,t5'⟩
      all_goals
       go_wp2_with fail;go_ret3;exact qcK hfin.out rfl hb
theorem qhO (s:ByteArray) (hs:s.size≤4611686018427387904) (k x n e:Int) (h:rd s k=(x,n,e)) (w:World):
 Calls Tryz.prog 249 #[.string s,.int .i64 k] w fun e' w'=>e'= .returned (.tuple #[.int .i64 x,.int .i64 n,.int .i64 e])∧Below w.heap.size w w':=by
 have:=ql1 s hs k w;unfold qtm at this;rw[h] at this;exact this
def qtT (r:Int×Int) (w:World) (e:Ending) (w':World):Prop:=e= .returned (.tuple #[.int .i64 r.1,.int .i64 r.2])∧Below w.heap.size w w'
theorem qlK {r:Int×Int} {w w':World} {e:Ending} {a b:Int} (h:(a,b)=r) (he:e= .returned (.tuple #[.int .i64 a,.int .i64 b])) (hb:Below w.heap.size w w'):qtT r w e w':=by
 unfold qtT;rw[←h];exact⟨he,hb⟩
theorem rcheck_any (s:ByteArray) (hs:s.size≤4611686018427387904) (w:World):
 Calls Tryz.prog 200 #[.string s] w (qtT (ck s) w):=by
 obtain⟨R,hR⟩: ∃R,Hid (R=ck s):=⟨ck s,rfl⟩;rw[←hR.out];go_enter Tryz.func200,Tryz.ntmps200;go_wp2_with fail;go_loopg [4] (s.size) (fun g sk wr=> ∃k f:Nat,k≤s.size∧s.size - k<f∧k+g=s.size∧sk= .int .i64 k∧Hid (ckf s f k=R)∧Below w.heap.size w wr)
 case atStart=>exact⟨0,s.size+1,by omega,by omega,by omega,rfl,hR.out.symm,Below.refl _ _⟩
 case round=>
  obtain⟨k,f,hk,hf,hg,rfl,hc,hb⟩:=hrel;obtain⟨f,rfl⟩: ∃g,f=g+1:=⟨f - 1,by omega⟩
  by_cases hlt:k<s.size
  ·obtain⟨x,n,e,hr⟩:=ex3 (rd s k);have t1:decide (k<s.size)=true:=dT (by omega);have hc':=hc.out;rw[ckf,if_pos hlt,hr.out] at hc'
   by_cases he:e=0
   ·have hn:=qtd s k x n e hr.out he;subst he;rw[if_pos rfl] at hc';replace hc':=Lh hc';go_wp2_with fail;refine(qhO s hs k x n 0 hr.out _).mono ?_;rintro e w1 ⟨rfl,hb1⟩;replace hb:=qcm hb hb1;go_wp2_with fail;go_roundg (gk - n.toNat)
    case measure=>omega
    case rel=>exact⟨k+n.toNat,f,by omega,by omega,by omega,by go_num,hc'.out,hb⟩
   ·rw[if_neg he] at hc';replace hc':=Lh hc';have t2:(e !=0)=true:=by simpa using he
    go_wp2_with fail;refine(qhO s hs k x n e hr.out _).mono ?_;rintro e w1 ⟨rfl,hb1⟩;replace hb:=qcm hb hb1;go_wp2_with fail;go_ret2;exact qlK hc'.out rfl hb
  ·obtain rfl:k=s.size:=by omega
   have hc':=hc.out;rw[ckf,if_neg hlt] at hc';replace hc':=Lh hc';go_wp2_with fail;go_ret2;exact qlK hc'.out rfl hb
end Go.Proofs.YtdeimnnpcfncpaaGreatDoor.L
