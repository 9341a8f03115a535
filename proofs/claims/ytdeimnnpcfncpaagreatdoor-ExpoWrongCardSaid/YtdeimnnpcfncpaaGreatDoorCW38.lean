/- Parts of the proof: LH. -/
import Derived.Test.YtdeimnnpcfncpaaGreatDoorCW32
set_option linter.unusedVariables false
set_option linter.unusedSimpArgs false
set_option maxRecDepth 100000
set_option maxHeartbeats 64000000
namespace Go.Proofs.YtdeimnnpcfncpaaGreatDoor.L
open Go.RowKit Go.Shelf X
theorem qlU (l:List UInt8) (i:Nat) (h:i<l.length) (hc:l.getD i 0=10) (p:List UInt8):qa7 p (rdh (l.drop i))=(223,[]):=by
 rw[qas l i h,hc];cases l.drop (i+1)<;>rfl
theorem qoN (l:List UInt8) (i:Nat) (h:l.length≤i) (p:List UInt8):qa7 p (rdh (l.drop i))=(0,p):=by
 rw[List.drop_of_length_le h];show(0,p++[])=_;rw[List.append_nil]
theorem qdL (p q:List UInt8) (r:Int×List UInt8):qa7 p (qa7 q r)=qa7 (p++q) r:=by
 unfold qa7
 by_cases h:r.1=0
 ·simp[h]
 ·simp[h]
theorem qe5 (l:List UInt8) (i:Nat) (h:i+1=l.length) (hc:l.getD i 0=92) (p:List UInt8):qa7 p (rdh (l.drop i))=(220,[]):=by
 rw[qas l i (by omega),hc,List.drop_of_length_le (by omega)];rfl
theorem qfr (l:List UInt8) (i:Nat) (h:i+1<l.length) (hc:l.getD i 0=92) (he:qgb (l.getD (i+1) 0)=[]) (p:List UInt8):qa7 p (rdh (l.drop i))=(220,[]):=by
 rw[qas l i (by omega),hc,qas l (i+1) h,rdh,if_neg (by decide),if_pos rfl,if_pos he];rfl
theorem qi0 (l:List UInt8) (i:Nat) (h:i+1<l.length) (hc:l.getD i 0=92) (he:qgb (l.getD (i+1) 0)≠[]) (p:List UInt8):qa7 p (rdh (l.drop i))=qa7 (p++qgb (l.getD (i+1) 0)) (rdh (l.drop (i+2))):=by
 rw[qas l i (by omega),hc,qas l (i+1) h,rdh,if_neg (by decide),if_pos rfl,if_neg he,qdL]
theorem qlH (l:List UInt8) (i:Nat) (h:i<l.length) (h1:l.getD i 0≠10) (h3:l.getD i 0≠92) (p:List UInt8):qa7 p (rdh (l.drop i))=qa7 (p++[l.getD i 0]) (rdh (l.drop (i+1))):=by
 rw[qas l i h,←qdL]
 congr 1
 generalize l.getD i 0=c at h1 h3⊢
 cases l.drop (i+1)with
 |nil=>simp[rdh,h1,h3,qa7]
 |cons x t=>rw[rdh,if_neg h1,if_neg h3]
theorem qrA (x:UInt8):qc9 x 2=qgb x:=by
 unfold qgb
 by_cases h1:x=92
 ·subst h1;decide
 ·by_cases h2:x=110
  ·subst h2;decide
  ·simp[qc9,plU,h1,h2]
theorem qq8 (x:UInt8):fnd x 2=decide (qgb x≠[]):=by
 unfold qgb
 by_cases h1:x=92
 ·subst h1;decide
 ·by_cases h2:x=110
  ·subst h2;decide
  ·simp[fnd,plU,h1,h2]
theorem qjx (s:ByteArray) (hs:s.size<900000) (w:World):Calls Tryz.prog 236 #[.string s,.int .i64 2,.bool false] w fun e w'=>(∃n,e= .returned (.tuple #[.string ⟨(qa7 [] (rdh s.data.toList)).2.toArray⟩,.int .i64 n,.int .i64 (qa7 [] (rdh s.data.toList)).1]))∧Below w.heap.size w w':=by
 obtain⟨R,hR⟩: ∃R,Hid (qa7 [] (rdh (s.data.toList.drop 0))=R):=⟨_,rfl⟩;rw[show qa7 [] (rdh s.data.toList)=R from hR.out];have hz:Hid (s.data.toList.length=s.size):=by show _=_;simp
 go_enter Tryz.func236,Tryz.ntmps236;go_wp2_with fail;go_step3;go_wp2_with fail;refine(qdq _).mono ?_;rintro e w1 ⟨rfl,hb1⟩;go_wp2_with fail;go_step3;show Exit.then _ _ _ _ (w1.alloc (.cells qeP 276));have I:=Lh (qiS w w1 hb1);have hN:w1.heap.size≠w.heap.size:=by have:=hb1.size;simp at this;omega
 clear hb1;generalize w1.alloc (.cells qeP 276)=w2 at I⊢;generalize w1.heap.size=N at I hN⊢;go_wp2_with fail;go_loopg [11,12] (s.size+1) (fun g s11 s12 wx=> ∃(i:Nat) (acc:List UInt8),i+g=s.size+1∧s11= .int .i64 i∧s12= .int .i64 0∧i≤s.size∧acc.length≤i∧Hid (qa7 acc (rdh (s.data.toList.drop i))=R)∧Hid (RdI w w.heap.size N acc wx))
 case atStart=>exact⟨0,[],by omega,rfl,rfl,by omega,by simp,hR,I⟩
 case round=>
  clear I hR;obtain⟨i,acc,hi,rfl,rfl,hin,hal,hR,I⟩:=hrel
  by_cases hlt:i<s.size
  ·have t1:decide (i<s.size)=true:=dT hlt;have hB:=qc7 s i hlt;obtain⟨c,hc⟩: ∃c,Hid (s.data.toList.getD i 0=c):=⟨_,rfl⟩;rw[show byt s i=(c.toNat:Int) by unfold byt;rw[hc.out]] at hB;have hli:i<s.data.toList.length:=by rw[hz.out];exact hlt
   by_cases g1:c=10
   ·subst g1;have e:=hR.out;rw[qlU _ _ hli hc.out] at e;subst e;rw[show(((10:UInt8).toNat:Int))=10 from rfl] at hB;clear hli hc hR;go_wp2_with fail;rw[Exit.noGoto_ret];go_ret3;exact⟨⟨_,rfl⟩,I.out.2⟩
   ·have s1:((c.toNat:Int)==10)=false:=qcX c 10 _ rfl g1
    by_cases g3:c=92
    ·subst g3;rw[show(((92:UInt8).toNat:Int))=92 from rfl] at hB
     by_cases hend:i+1=s.size
     ·have e:=hR.out;rw[qe5 _ _ (by rw[hz.out];exact hend) hc.out] at e;subst e;have t2:((i:Int)+1==(s.size:Int))=true:=by simp;omega
      clear hli hc hR;go_wp2_with fail;rw[Exit.noGoto_ret];go_ret3;exact⟨⟨_,rfl⟩,I.out.2⟩
     ·have t2:((i:Int)+1==(s.size:Int))=false:=by simp;omega
      have hlt2:i+1<s.size:=by omega
      have hB2:=qc7 s (i+1) hlt2;obtain⟨x,hx⟩: ∃x,Hid (s.data.toList.getD (i+1) 0=x):=⟨_,rfl⟩;rw[show byt s (i+1)=(x.toNat:Int) by unfold byt;rw[hx.out]] at hB2;have t3:decide (0≤(i:Int)+1)=true:=dT (by omega);go_wp2_with fail;go_loopg [14,55] 2 (fun gj s14 s55 wx=> ∃j:Nat,j+gj=2∧s55= .int .i64 j∧s14= .bool (fnd x j)∧Hid (RdI w w.heap.size N (acc++qc9 x j) wx))
      case atStart=>exact⟨0,by omega,rfl,rfl,by rw[qc9,List.append_nil];exact I⟩
      case round=>
       clear I;obtain⟨j,hj,rfl,rfl,I⟩:=hrel
       by_cases hlj:j<2
       ·have t4:decide (j<2)=true:=dT hlj;obtain⟨k1,k2⟩:=I.out.1.2.cells j (by omega);rw[qjl] at k1;rw[qjM] at k2;have hI1:=Lh (I.out.alloc (.cells #[.int .u8 ((pcU j).toNat:Int),.int .u8 ((plU j).toNat:Int)] 275));have hol:=qeF x j
        by_cases he:x=plU j
        ·have s4:((x.toNat:Int)==((plU j).toNat:Int))=true:=by rw[he];simp
         have ho:acc++qc9 x j++[pcU j]=acc++qc9 x (j+1):=by rw[qc9,if_pos he,List.append_assoc]
         have hf:fnd x (j+1)=true:=by rw[fnd,dT he,Bool.or_true]
         replace ho:=Lh ho;clear I;go_upto_region 26 with (fail)
         go_region;go_wp2_with fail;refine(qr5 w w.heap.size N hN (acc++qc9 x j) (pcU j) (by simp;omega) _ hI1.out.drew).mono ?_;rintro e w3 ⟨rfl,hI3⟩;rw[ho.out] at hI3;replace hI3:=Lh hI3;clear hI1;go_wp2_with fail;go_roundg (gk - 1)
         case measure=>omega
         case rel=>exact⟨j+1,by omega,rfl,by rw[hf],hI3⟩
        ·have s4:((x.toNat:Int)==((plU j).toNat:Int))=false:=qcX x _ _ rfl he;have ho:acc++qc9 x (j+1)=acc++qc9 x j:=by rw[qc9,if_neg he,List.append_nil]
         have hf:fnd x (j+1)=fnd x j:=by rw[fnd,dF he,Bool.or_false]
         replace ho:=Lh ho;clear I;go_upto_region 26 with (fail)
         go_region;go_wp2_with fail;go_roundg (gk - 1)
         case measure=>omega
         case rel=>exact⟨j+1,by omega,rfl,by rw[hf],by rw[ho.out];exact hI1.out.drew⟩
       ·obtain rfl:j=2:=by omega
        have t4:decide (2<2)=false:=rfl;rw[qrA] at I
        by_cases he:qgb x=[]
        ·have hf:fnd x 2=false:=by rw[qq8,he];rfl
         have e:=hR.out;rw[qfr _ _ (by rw[hz.out];exact hlt2) hc.out (by rw[hx.out];exact he)] at e;subst e;clear hli hc hR hx;go_wp2_with fail;rw[Exit.noGoto_ret];go_ret3;exact⟨⟨_,rfl⟩,I.out.2⟩
        ·have hf:fnd x 2=true:=by rw[qq8];exact dT he
         have hR2:=qi0 _ _ (by rw[hz.out];exact hlt2) hc.out (by rw[hx.out];exact he) acc;rw[hx.out,hR.out] at hR2;replace hR2:=Lh hR2.symm;have hel:(qgb x).length≤1:=by unfold qgb;(repeat' split)<;>simp
         clear hli hc hR hx;go_wp2_with fail;go_roundg (s.size+1 - (i+2))
         case measure=>omega
         case rel=>exact⟨i+2,acc++qgb x,by omega,by go_num,rfl,by omega,by simp;omega,hR2,I⟩
    ·have s3:((c.toNat:Int)==92)=false:=qcX c 92 _ rfl g3;have s3':((c.toNat:Int) !=92)=true:=by rw[bne,s3];rfl
     have hR2:=Lh (qlH _ _ hli (by rw[hc.out];exact g1) (by rw[hc.out];exact g3) acc);rw[hc.out,hR.out] at hR2;replace hR2:=Lh hR2.out.symm;cases s2:((c.toNat:Int)==34)
     all_goals
      go_wp2_with fail;refine(qr5 w w.heap.size N hN acc c (by omega) _ I.out).mono ?_;rintro e w3 ⟨rfl,hI3⟩;replace hI3:=Lh hI3;clear I hR;go_wp2_with fail;go_roundg (gk - 1)
      case measure=>omega
      case rel=>exact⟨i+1,acc++[c],by omega,rfl,rfl,by omega,by simp;omega,hR2,hI3⟩
  ·obtain rfl:i=s.size:=by omega
   have t1:decide (s.size<s.size)=false:=dF (by omega);have e:=hR.out;rw[qoN _ _ (by rw[hz.out];omega)] at e;subst e;go_wp2_with fail;refine(str_k w.heap.size w.heap.size acc _ rfl _ I.out.1.1 I.out.2.size).mono ?_;rintro e w3 ⟨rfl,_,hb3,_⟩;have B3:=I.out.2.trans hb3;go_wp2_with fail;rw[Exit.noGoto_ret];go_ret3;exact⟨⟨_,rfl⟩,B3⟩
theorem qfS (p:List UInt8) (r:Int×List UInt8) (h:(qa7 p r).1≠0):(qa7 p r).2=[]:=by
 unfold qa7 at h⊢
 split
 ·rename_i g;rw[if_pos g] at h;exact absurd rfl h
 ·rfl
theorem qoC: ∀l:List UInt8,(rdh l).1≠0→(rdh l).2=[]
 | [],h=>absurd rfl h
 | [c],h=>by
   unfold rdh at h⊢
   split
   ·rfl
   ·rename_i g
    rw[if_neg g] at h
    split
    ·rfl
    ·rename_i g2;rw[if_neg g2] at h;exact absurd rfl h
 |c::x::t,h=>by
  rw[rdh] at h⊢
  split
  ·rfl
  ·rename_i g
   rw[if_neg g] at h
   split
   ·rename_i g2
    rw[if_pos g2] at h
    split
    ·rfl
    ·rename_i g3;rw[if_neg g3] at h;exact qfS _ _ h
   ·rename_i g2
    rw[if_neg g2] at h;exact qfS _ _ h
theorem help_any (l:List UInt8) (hl:l.length≤65536) (w:World):Calls Tryz.prog 211 #[.string (BS l)] w fun e w'=>e= .returned (.tuple #[.string (BS (rdh l).2),.int .i64 (rdh l).1])∧Below w.heap.size w w':=by
 have hz:=qah l;have c:=qjx (BS l) (by omega) w;rw[show(BS l).data.toList=l by simp[BS]] at c
 have he:qa7 [] (rdh l)=rdh l:=by
  unfold qa7
  by_cases h:(rdh l).1=0
  ·rw[if_pos h,List.nil_append,←h]
  ·rw[if_neg h];have h2:=qoC l h;rw[←h2]
 rw[he] at c;have hc:=Lh c;have u1:decide ((65536:Int)<((BS l).size:Int))=false:=dF (by omega);clear c he;generalize rdh l=q at hc⊢;go_enter Tryz.func211,Tryz.ntmps211;go_wp2_with fail;refine hc.out.mono ?_;rintro x w1 ⟨⟨n,rfl⟩,B⟩;go_wp2_with fail;go_ret2;exact⟨rfl,B⟩
end Go.Proofs.YtdeimnnpcfncpaaGreatDoor.L
