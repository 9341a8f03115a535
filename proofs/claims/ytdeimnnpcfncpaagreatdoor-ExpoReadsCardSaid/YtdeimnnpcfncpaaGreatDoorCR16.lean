/- Parts of the proof: D11 D12 D10 D13. -/
import Derived.ScopeJumps
import Derived.Test.YtdeimnnpcfncpaaGreatDoorCR15
set_option linter.unusedVariables false
set_option linter.unusedSimpArgs false
set_option maxRecDepth 100000
set_option maxHeartbeats 64000000
namespace Go.Proofs.YtdeimnnpcfncpaaGreatDoor
open Go Go.RowKit
def qaz (l:List UInt8):Nat:=(l.takeWhile isD).length
def sgd (l:List UInt8):List UInt8:=match l with| []=>[]|c::t=>if c=43∨c=45 then t else c::t
theorem qbt (l:List UInt8):qaz l≤l.length:=by unfold qaz;exact(List.takeWhile_prefix _).length_le
theorem qbX (c:UInt8) (t:List UInt8):qaz (c::t)=if isD c then qaz t+1 else 0:=by
 unfold qaz;rw[List.takeWhile_cons];split<;>rfl
theorem qaf (l:List UInt8) (i:Nat) (h:i<l.length):l.drop i=l.getD i 0::l.drop (i+1):=by
 rw[List.drop_eq_getElem_cons h,gZd,gZq h];rfl
theorem qat (s:ByteArray):s.data.toList.length=s.size:=by simp
theorem qbm {a b:ByteArray} (h:a.data.toList=b.data.toList):a=b:=by
 cases a with
 |mk x=>cases b with
  |mk y=>cases x;cases y;simp at h;subst h;rfl
theorem qdC (s:ByteArray) (hs:s.size≤2000) (w:World):Calls Tryz.prog 183 #[.string s] w fun e w'=>e= .returned (.int .i64 (qaz s.data.toList:Int))∧w=w':=by
 obtain⟨N,hN⟩: ∃N,Hid (qaz s.data.toList=N):=⟨_,Lh rfl⟩;rw[hN.out];have hlen:=Lh (qat s);go_enter Tryz.func183,Tryz.ntmps183;go_wp2_with fail;go_loop [3] (fun s3=> ∃k:Nat,k≤s.size∧s3= .int .i64 (k:Int)∧Hid (k+qaz (s.data.toList.drop k)=N)) (fun s3=>s.size - (intOf s3).toNat)
 case atStart=>exact⟨0,by omega,rfl,Lh (by rw[List.drop_zero,←hN.out];omega)⟩
 case round=>
  obtain⟨k,hk,rfl,hI⟩:=hrel
  by_cases hlt:k<s.size
  ·have u1:decide ((k:Int)<(s.size:Int))=true:=dT (by omega);have u1':decide (k<s.size)=true:=dT (by omega);obtain⟨c,hc,hB⟩:=qbG s k hlt;have hI':=hI.out;rw[qaf _ k (by rw[hlen.out];exact hlt)] at hI';unfold bt at hc;rw[hc.out,qbX] at hI'
   by_cases hd:isD c=true
   ·rw[if_pos hd] at hI';have hI2:Hid (k+1+qaz (s.data.toList.drop (k+1))=N):=Lh (by omega);have hcd:=(qaq _).1 hd;have v3:decide ((48:Int)≤(c.toNat:Int))=true:=dT (by omega);have v4:decide ((c.toNat:Int)≤57)=true:=dT (by omega);have v3':decide (48≤c.toNat)=true:=dT (by omega);have v4':decide (c.toNat≤57)=true:=dT (by omega);clear hI' hI hc hd hcd;go_wp2_with fail;go_round
    case rel=>exact⟨k+1,by omega,by go_num,hI2⟩
    case measure=>simp[intOf];omega
   ·rw[if_neg hd] at hI';obtain rfl:k=N:=by omega
    have hcd: ¬(48≤c.toNat∧c.toNat≤57):=fun h=>hd ((qaq _).2 h)
    clear hI' hI hc hd hN
    by_cases h48:48≤c.toNat
    ·have v3:decide ((48:Int)≤(c.toNat:Int))=true:=dT (by omega);have v4:decide ((c.toNat:Int)≤57)=false:=dF (by omega);have v3':decide (48≤c.toNat)=true:=dT (by omega);have v4':decide (c.toNat≤57)=false:=dF (by omega);clear hcd h48;go_wp2_with fail;go_ret;exact⟨rfl,rfl⟩
    ·have v3:decide ((48:Int)≤(c.toNat:Int))=false:=dF (by omega);have v3':decide (48≤c.toNat)=false:=dF (by omega);clear hcd h48;go_wp2_with fail;go_ret;exact⟨rfl,rfl⟩
  ·obtain rfl:k=s.size:=by omega
   have hI':=hI.out;rw[List.drop_of_length_le (by rw[hlen.out];exact Nat.le_refl _)] at hI';obtain rfl:s.size=N:=by rw[←hI'];rfl
   clear hI hI' hN;go_wp2_with fail;go_ret;exact⟨rfl,rfl⟩
theorem qfs (s:ByteArray) (hs:s.size≤2000) (w:World):Calls Tryz.prog 182 #[.string s] w fun e w'=>e= .returned (.string ⟨(sgd s.data.toList).toArray⟩)∧w=w':=by
 by_cases h0:0<s.size
 ·have u1:decide ((0:Int)<(s.size:Int))=true:=dT (by omega);have u1':decide (0<s.size)=true:=dT (by omega);have tE: ¬s=ByteArray.empty:=fun e=>by rw[e] at h0;exact absurd h0 (by decide)
  obtain⟨c,hc,hB⟩:=qbG s 0 h0
  have hl:s.data.toList=c::s.data.toList.drop 1:=by
   have:=qaf s.data.toList 0 (by rw[qat];exact h0);rw[List.drop_zero] at this;unfold bt at hc;rw[hc.out] at this;exact this
  by_cases g:c=43∨c=45
  ·have hr:(⟨(sgd s.data.toList).toArray⟩:ByteArray)=s.extract 1 s.size:=by
    apply qbm;rw[ext_list];show sgd s.data.toList=_;rw[hl,sgd,if_pos g];rfl
   rw[hr];rcases g with rfl|rfl
   ·rw[show(((43:UInt8).toNat:Int))=43 from rfl] at hB;clear hl hr hc;go_enter Tryz.func182,Tryz.ntmps182;go_wp2_with fail;go_ret;exact⟨rfl,rfl⟩
   ·rw[show(((45:UInt8).toNat:Int))=45 from rfl] at hB;clear hl hr hc;go_enter Tryz.func182,Tryz.ntmps182;go_wp2_with fail;go_ret;exact⟨rfl,rfl⟩
  ·have hr:(⟨(sgd s.data.toList).toArray⟩:ByteArray)=s:=by
    apply qbm;show sgd s.data.toList=_;rw[hl,sgd,if_neg g]
   rw[hr];have v1:=qaJ c 43 43 rfl (fun e=>g (.inl e));have v2:=qaJ c 45 45 rfl (fun e=>g (.inr e));clear hl hr hc g;go_enter Tryz.func182,Tryz.ntmps182;go_wp2_with fail;go_ret;exact⟨rfl,rfl⟩
 ·have hz:s.size=0:=by omega
  have hr:(⟨(sgd s.data.toList).toArray⟩:ByteArray)=s:=by
   have:s.data.toList=[]:=List.length_eq_zero_iff.1 (by rw[qat];exact hz);apply qbm;rw[this];rfl
  rw[hr];have u1:decide ((0:Int)<(s.size:Int))=false:=dF (by omega);have u1':decide (0<s.size)=false:=dF (by omega);clear hr hz h0;go_enter Tryz.func182,Tryz.ntmps182;go_wp2_with fail;go_ret;exact⟨rfl,rfl⟩
theorem qqM (s:ByteArray) (hs:s.size≤2000) (w:World):Calls Tryz.prog 55 #[.string s,.string ⟨#[46]⟩] w fun e w'=>e= .returned (.bool (decide (s.data.toList.head?=some 46)))∧w=w':=by
 obtain⟨b,hb⟩: ∃b,Hid (decide (s.data.toList.head?=some 46)=b):=⟨_,Lh rfl⟩;rw[hb.out]
 have h82:Hid (Calls Tryz.prog 113 #[.string s,.string ⟨#[46]⟩] w fun e w'=>e= .returned (.bool b)∧w=w'):=by
  by_cases h0:1≤s.size
  ·have u1:decide ((1:Int)≤(s.size:Int))=true:=dT (by omega);have u1':decide (1≤s.size)=true:=dT (by omega);have hl:=qaf s.data.toList 0 (by rw[qat];exact h0);rw[List.drop_zero] at hl
   have hx:(s.extract 0 1).data.toList=[s.data.toList.getD 0 0]:=by
    rw[ByteArray.data_extract,Array.toList_extract,List.extract_eq_take_drop,List.drop_zero]
    conv=>lhs;rw[hl]
    rfl
   have hh:s.data.toList.head?=some (s.data.toList.getD 0 0):=by
    conv=>lhs;rw[hl]
    rfl
   obtain⟨c,hc⟩: ∃c,c=s.data.toList.getD 0 0:=⟨_,rfl⟩;rw[←hc] at hx hh;clear hl hc
   by_cases g:c=46
   ·obtain rfl:b=true:=by rw[←hb.out,hh,g];rfl
    have hE:((s.extract 0 1).toList==[46])=true:=by rw[ByteArray.toList_eq,hx,g];rfl
    clear hx hh g hb;go_enter Tryz.func113,Tryz.ntmps113;go_wp2_with fail;go_ret;exact⟨rfl,rfl⟩
   ·obtain rfl:b=false:=by rw[←hb.out,hh];exact dF (fun e=>g (Option.some.inj e))
    have hE:((s.extract 0 1).toList==[46])=false:=by rw[ByteArray.toList_eq,hx];simpa using g
    clear hx hh g hb;go_enter Tryz.func113,Tryz.ntmps113;go_wp2_with fail;go_ret;exact⟨rfl,rfl⟩
  ·have u1:decide ((1:Int)≤(s.size:Int))=false:=dF (by omega);have u1':decide (1≤s.size)=false:=dF (by omega);have hn:s.data.toList=[]:=List.length_eq_zero_iff.1 (by rw[qat];omega);obtain rfl:b=false:=by rw[←hb.out,hn];rfl
   have tE:s=ByteArray.empty:=qbm (by rw[hn];rfl);clear hn hb;subst tE;go_enter Tryz.func113,Tryz.ntmps113;go_wp2_with fail;go_ret;exact⟨rfl,rfl⟩
 clear hb;go_enter Tryz.func55,Tryz.ntmps55;go_wp2_with fail;refine h82.out.mono ?_;rintro x w1 ⟨rfl,rfl⟩;go_wp2_with fail;go_ret;exact⟨rfl,rfl⟩
def qdL:List UInt8→Bool
 | []=>true
 |c::t=>(c==101||c==69)&&(decide (1≤qaz (sgd t))&&decide (qaz (sgd t)≤5)&&(qaz (sgd t)==(sgd t).length))
def qfh (l:List UInt8):Nat×List UInt8:=
 let rest:=l.drop (qaz l)
 match rest with
 | []=>(qaz l,[])
 |c::t=>if c=46 then (qaz l+qaz t,t.drop (qaz t)) else (qaz l,c::t)
def qau (l:List UInt8):Bool:=(qfh (sgd l)).1 !=0&&qdL (qfh (sgd l)).2
theorem ql9 (l:List UInt8):(sgd l).length≤l.length:=by
 cases l with
 |nil=>exact Nat.le_refl _
 |cons c t=>rw[sgd];split;exact Nat.le_succ _;exact Nat.le_refl _
theorem qmN (l:List UInt8):l=[]∨ ∃c t,l=c::t:=by cases l;exact .inl rfl;exact .inr ⟨_,_,rfl⟩
theorem qkV (l:List UInt8): ∃s:ByteArray,Hid (s.data.toList=l)∧s=⟨l.toArray⟩:=⟨⟨l.toArray⟩,Lh rfl,rfl⟩
theorem qgT (s:ByteArray) (hs:s.size≤2000) (w:World):Calls Tryz.prog 128 #[.string s] w fun e w'=>e= .returned (.bool (qau s.data.toList))∧w=w':=by
 have c1:=qfs s hs w;obtain⟨s1,hl1,h1⟩:=qkV (sgd s.data.toList);rw[←h1] at c1
 have hz1:s1.size≤2000:=by
  have:=qat s1;rw[hl1.out] at this;have h2:=qat s;have h3:=ql9 s.data.toList;omega
 have c2:=qdC s1 hz1 w;obtain⟨n,hn⟩: ∃n,n=qaz s1.data.toList:=⟨_,rfl⟩;rw[←hn] at c2;have hns:n≤s1.size:=by rw[hn,←qat];exact qbt _
 obtain⟨s4,h4⟩: ∃s4,s1.extract n s1.size=s4:=⟨_,rfl⟩;have hl4:s4.data.toList=s1.data.toList.drop n:=by rw[←h4];exact ext_list _ _
 have hz4:s4.size≤2000:=by rw[←h4,ext_size];omega
 have c3:=qqM s4 hz4 w;obtain⟨R,hR⟩: ∃R,R=qau s.data.toList:=⟨_,rfl⟩;rw[←hR];unfold qau at hR;rw[←hl1.out] at hR;obtain⟨N,r,hNr⟩: ∃(N:Nat) (r:ByteArray),qfh s1.data.toList=(N,r.data.toList):=⟨(qfh s1.data.toList).1,⟨(qfh s1.data.toList).2.toArray⟩,rfl⟩;rw[hNr] at hR;replace hR:Hid (R=(N !=0&&qdL r.data.toList)):=hR;unfold qfh at hNr;rw[←hn,←hl4] at hNr;replace hNr:=Lh hNr;replace hl4:=Lh hl4;replace c1:=Lh c1;replace c2:=Lh c2;replace c3:=Lh c3;clear hn hl1 h1
 have hrz:Hid (N≤4000∧r.size≤2000):=Lh (by
  have:=hNr.out;have hl:=qat r;dsimp only at this
  split at this
  ·simp only[Prod.mk.injEq] at this;rw[←this.2] at hl;simp at hl;omega
  ·rename_i c t hct
   have hlt:t.length+1=s4.size:=by rw[←qat s4,hct];rfl
   have hdl:=qbt t
   split at this
   ·simp only[Prod.mk.injEq] at this;rw[←this.2,List.length_drop] at hl;omega
   ·simp only[Prod.mk.injEq] at this;rw[←this.2] at hl;simp at hl
    omega)
 go_enter Tryz.func128,Tryz.ntmps128;go_wp2_with fail;refine wp_scope_jumps 0 (fun a' w'=>R=false∧w=w'∧ ∃u0 u1 u2 u3 u4 u5 u6 u7 u8 u9 u10 u11 u12 u13 u14 u15 u16 u17 u18 u19 u20 u21 u22 u23 u24 u25 u26 u27 u28 u29 u30 u31 u32 u33 u34 u35 u36 u37 u38 u39 u40 u41 u42 u43 u44 u45 u46 u47 u48 u49 u50 u51 u52 u53 u54:Value,a'=⟨#[u0,u1,u2,u3,u4,u5,u6,u7,u8,u9,u10,u11,u12,u13,u14,u15,u16,u17,u18,u19,u20,u21,u22,u23,u24,u25,u26,u27,u28,u29,u30,u31,u32,u33,u34,u35,u36,u37,u38,u39,u40,u41,u42,u43,u44,u45,u46,u47,u48,u49,u50,u51,u52,u53,u54],[]⟩) (fun _ _=>0) rfl ?_ ?_
 ·go_wp2_with fail;refine c1.out.mono ?_;rintro x w1 ⟨rfl,rfl⟩;go_wp2_with fail;refine c2.out.mono ?_;rintro x w1 ⟨rfl,rfl⟩;obtain⟨bd,hbd⟩: ∃bd,Hid (decide (s4.data.toList.head?=some 46)=bd):=⟨_,Lh rfl⟩;rw[hbd.out] at c3;go_upto_if 15 with (refine c3.out.mono ?_;rintro x w1 ⟨rfl,rfl⟩)
  clear c1 c2 c3;go_cut [3,4] (fun s3 s4 wx=>s3= .int .i64 (N:Int)∧s4= .string r∧w=wx)
  case first=>
   rcases qmN s4.data.toList with hs4|⟨c,t,hs4⟩
   ·obtain rfl:bd=false:=by rw[←hbd.out,hs4];rfl
    have hq:=hNr.out;rw[hs4] at hq;simp only[Prod.mk.injEq] at hq;obtain⟨rfl,hq⟩:=hq;obtain rfl:s4=r:=qbm (hs4.trans hq);clear hs4 hq hbd hNr hl4 h4;go_wp2_with fail;go_meet;exact⟨rfl,rfl,rfl⟩
   ·have hq:=hNr.out;rw[hs4] at hq;dsimp only at hq
    by_cases g:c=46
    ·obtain rfl:bd=true:=by rw[←hbd.out,hs4,g];rfl
     rw[if_pos g] at hq;simp only[Prod.mk.injEq] at hq;have hz:1+t.length=s4.size:=by rw[←qat s4,hs4];simp;omega
     obtain⟨s5,h5⟩: ∃s5,s4.extract 1 s4.size=s5:=⟨_,rfl⟩;have hl5:s5.data.toList=t:=by rw[←h5,ext_list,hs4];rfl
     have hz5:s5.size≤2000:=by rw[←h5,ext_size];omega
     have c4:=qdC s5 hz5 w;rw[hl5] at c4;have hdl:=qbt t;obtain⟨m,hm⟩: ∃m,m=qaz t:=⟨_,rfl⟩;rw[←hm] at c4 hq hdl;obtain⟨rfl,hq⟩:=hq;have h6:s4.extract (1+m) s4.size=r:=qbm (by rw[ext_list,hs4,←hq,Nat.add_comm,List.drop_succ_cons]);have hb1:1≤s4.size:=by omega
     have hb2:1+m≤s4.size:=by omega
     replace c4:=Lh c4;clear hq hl5 hs4 hbd hNr hl4 h4 hm hR hrz g hz hdl;go_wp2_with fail;refine c4.out.mono ?_;rintro x w1 ⟨rfl,rfl⟩;go_wp2_with fail;go_meet;exact⟨by go_num,congrArg Value.string h6,rfl⟩
    ·obtain rfl:bd=false:=by rw[←hbd.out,hs4];simpa using g
     rw[if_neg g] at hq;simp only[Prod.mk.injEq] at hq;obtain⟨rfl,hq⟩:=hq;obtain rfl:s4=r:=qbm (hs4.trans hq);clear hs4 hq hbd hNr hl4 h4;go_wp2_with fail;go_meet;exact⟨rfl,rfl,rfl⟩
  case rest=>
   obtain⟨rfl,rfl,rfl⟩:=hcut;clear hbd hNr hl4 h4;obtain⟨hN4,hr2⟩:=hrz.out
   by_cases hN:N=0
   ·have u0:((N:Int)==0)=true:=by simp[hN]
    obtain rfl:R=false:=by rw[hR.out,hN];rfl
    clear hR hrz hN;go_wp2_with fail;go_step3;exact⟨rfl,rfl,rfl,_,_,_,_,_,_,_,_,_,_,_,_,_,_,_,_,_,_,_,_,_,_,_,_,_,_,_,_,_,_,_,_,_,_,_,_,_,_,_,_,_,_,_,_,_,_,_,_,_,_,_,_,_,_,_,rfl⟩
   ·have u0:((N:Int)==0)=false:=by simp[hN]
    have hN':(N !=0)=true:=by simp[hN]
    have hR':=hR.out;rw[hN',Bool.true_and] at hR';clear hR hrz hN hN';rcases qmN r.data.toList with hr|⟨c,t,hr⟩
    ·obtain rfl:R=true:=by rw[hR',hr];rfl
     have e1:r.toList=[]:=by rw[ByteArray.toList_eq,hr]
     have e2:r.toList.isEmpty=true:=by rw[e1];rfl
     clear hR' hr;go_wp2_with fail;simp only[Exit.jump];go_ret;exact⟨rfl,rfl⟩
    ·have e1: ¬r.toList=[]:=by rw[ByteArray.toList_eq,hr];simp
     have e2:r.toList.isEmpty=false:=by rw[ByteArray.toList_eq,hr];rfl
     have hrs:0<r.size:=by rw[←qat,hr];simp
     obtain⟨c',hc',hB⟩:=qbG r 0 hrs;obtain rfl:c=c':=by rw[←hc'.out];unfold bt;rw[hr];rfl
     clear hc';rw[hr,qdL] at hR'
     by_cases g:c=101∨c=69
     ·have g1:(c==101||c==69)=true:=by simpa using g
      rw[g1,Bool.true_and] at hR';obtain⟨s7,h7⟩: ∃s7,r.extract 1 r.size=s7:=⟨_,rfl⟩;have hl7:s7.data.toList=t:=by rw[←h7,ext_list,hr];rfl
      have hz7:s7.size≤2000:=by rw[←h7,ext_size];omega
      have c5:=qfs s7 hz7 w;rw[hl7] at c5;obtain⟨s8,hl8,h8⟩:=qkV (sgd t);rw[←h8] at c5
      have hz8:s8.size≤2000:=by
       have:=qat s8;rw[hl8.out] at this;have h2:=qat s7;rw[hl7] at h2;have h3:=ql9 t;omega
      have c6:=qdC s8 hz8 w;rw[←hl8.out,qat] at hR';obtain⟨k,hk⟩: ∃k,k=qaz s8.data.toList:=⟨_,rfl⟩;rw[←hk] at c6 hR';have hk2:k≤s8.size:=by rw[hk,←qat];exact qbt _
      replace c5:=Lh c5;replace c6:=Lh c6;replace hR':=Lh hR';clear hl7 hl8 h8 hk hr g1;have hcc:(c.toNat:Int)=101∨(c.toNat:Int)=69:=by rcases g with rfl|rfl;exact .inl rfl;exact .inr rfl
      clear g;rcases hcc with h|h
      all_goals
       rw[h] at hB;clear h;go_wp2_with fail;refine c5.out.mono ?_;rintro x w1 ⟨rfl,rfl⟩;go_wp2_with fail;refine c6.out.mono ?_;rintro x w1 ⟨rfl,rfl⟩;clear c5 c6
       by_cases k1:1≤k
       ·have a1:decide ((1:Int)≤(k:Int))=true:=dT (by omega);have a1':decide (1≤k)=true:=dT k1
        by_cases k5:k≤5
        ·have a2:decide ((k:Int)≤5)=true:=dT (by omega);have a2':decide (k≤5)=true:=dT k5
         by_cases kz:k=s8.size
         ·have a3:((k:Int)==(s8.size:Int))=true:=by simp[kz]
          obtain rfl:R=true:=by rw[hR'.out,a1',a2',kz];simp
          clear hR' k1 k5 kz;go_wp2_with fail;simp only[Exit.jump];go_ret;exact⟨rfl,rfl⟩
         ·have a3:((k:Int)==(s8.size:Int))=false:=by simp;omega
          obtain rfl:R=false:=by rw[hR'.out,show(k==s8.size)=false by simpa using kz,Bool.and_false]
          clear hR' k1 k5 kz;go_wp2_with fail;go_step3;go_wp2_with fail;simp only[Exit.jump];go_ret;exact⟨rfl,rfl⟩
        ·have a2:decide ((k:Int)≤5)=false:=dF (by omega);have a2':decide (k≤5)=false:=dF k5;obtain rfl:R=false:=by rw[hR'.out,a2'];simp
         clear hR' k1 k5;go_wp2_with fail;go_step3;go_wp2_with fail;simp only[Exit.jump];go_ret;exact⟨rfl,rfl⟩
       ·have a1:decide ((1:Int)≤(k:Int))=false:=dF (by omega);have a1':decide (1≤k)=false:=dF k1;obtain rfl:R=false:=by rw[hR'.out,a1'];simp
        clear hR' k1;go_wp2_with fail;go_step3;go_wp2_with fail;simp only[Exit.jump];go_ret;exact⟨rfl,rfl⟩
     ·obtain rfl:R=false:=by
       have g1:(c==101||c==69)=false:=by simpa using g
       rw[hR',g1,Bool.false_and]
      have v1:((c.toNat:Int) !=101)=true:=by rw[bne,qaJ c 101 101 rfl (fun e=>g (.inl e))];rfl
      have v2:((c.toNat:Int) !=69)=true:=by rw[bne,qaJ c 69 69 rfl (fun e=>g (.inr e))];rfl
      clear hR' hr g;go_wp2_with fail;go_step3;exact⟨rfl,rfl,rfl,_,_,_,_,_,_,_,_,_,_,_,_,_,_,_,_,_,_,_,_,_,_,_,_,_,_,_,_,_,_,_,_,_,_,_,_,_,_,_,_,_,_,_,_,_,_,_,_,_,_,_,_,_,_,_,rfl⟩
 ·rintro a' w' ⟨hF,rfl,u0,u1,u2,u3,u4,u5,u6,u7,u8,u9,u10,u11,u12,u13,u14,u15,u16,u17,u18,u19,u20,u21,u22,u23,u24,u25,u26,u27,u28,u29,u30,u31,u32,u33,u34,u35,u36,u37,u38,u39,u40,u41,u42,u43,u44,u45,u46,u47,u48,u49,u50,u51,u52,u53,u54,rfl⟩;subst hF;go_wp2_with fail;simp only[Exit.jump];go_ret;exact⟨rfl,rfl⟩
def v64 (d:Nat) (p:Int):Nat:=if d=0 then 0 else if 310<p then INF else if p< -345 then 0 else qce d (p+348).toNat
def AtRet (ng:Bool) (v:Nat) (n:Int) (w:World) (x:Ending) (w':World):Prop:=(∃b,x= .returned (.tuple #[.float .f64 (sgw ng+v),.int .i64 n,qgF b]))∧Below w.heap.size w w'
theorem qgf (ng:Bool): ∃b:Int,IntKind.u64.wrap (b*9223372036854775808)=((sgw ng:Nat):Int)∧ ∀w,Calls Tryz.prog 282 #[.bool ng] w fun e w'=>e= .returned (.int .u64 b)∧w=w':=by
 cases ng
 ·exact⟨0,rfl,fun w=>qbP false w⟩
 ·exact⟨1,rfl,fun w=>qbP true w⟩
theorem qey {s:ByteArray} {a e:Nat} (H:qjO s a e):dig (bt s a).toNat:=by
 have h1:=H.lt;rcases H.ch a (Nat.le_refl _) h1 with g|g
 ·have:=(qaq _).1 g;exact⟨by omega,by omega⟩
 ·rw[g.1];exact⟨by decide,by decide⟩
theorem qq0 (ng:Bool):bits .or .u64 ((sgw ng:Nat):Int) 0=((sgw ng:Nat):Int)∧bits .or .u64 ((sgw ng:Nat):Int) 9218868437227405312=((sgw ng+INF:Nat):Int):=by
 cases ng<;>decide+kernel
theorem qkA (s:ByteArray) (a e:Nat) (ng:Bool) (E:Int) (H:qjO s a e) (S:Sgn s a ng) (T:Tail s e E) (ht:(mat s a e).trunc=false) (w:World) (hG:qgu w):
 Calls Tryz.prog 263 #[.string s] w (AtRet ng (v64 (mat s a e).mant (qaG (mat s a e) E)) s.size w):=by
 have hz:=H.sz;have hl:=H.lt;have hle:=H.le;have hrf:=qlZ s a e ng E H S T w;unfold qkg at hrf;rw[ht] at hrf;have hsp:=Lh (qm1 s a ng (by omega) hz (by rcases S with h|h;exact .inl h.1;exact .inr h) (qey H) w);have hm:=(qb1 H e (by omega) (Nat.le_refl _)).2.1;obtain⟨d,hd⟩: ∃d,d=(mat s a e).mant:=⟨_,rfl⟩;obtain⟨p,hp⟩: ∃p,p=qaG (mat s a e) E:=⟨_,rfl⟩;rw[←hd] at hm;rw[←hd,←hp] at hrf⊢;replace hrf:=Lh hrf;obtain⟨b,hb1,hb2⟩:=qgf ng;obtain⟨o1,o2⟩:=qq0 ng;have hsg:=qkJ ng;have hae:=fun (h0:0<d) (h1: -348≤p) (h2:p≤347)=>qsC ng d p h0 (by omega) h1 h2 w hG
 have hpf:=fun (h0:0<d) (h1: -348≤p) (h2:p≤347)=>qg3 d (p+348).toNat (sgw ng) h0 (by omega) (by omega) hsg w hG.tab (by have:=hG.big;omega)
 obtain⟨sg,hsgd⟩: ∃sg,sg=sgw ng:=⟨_,rfl⟩;rw[←hsgd] at hb1 o1 o2 hae hpf hsg;have f1:=qq7 (sg:Int) w;have f2:=qq7 ((sg+INF:Nat):Int) w;rw[Int.toNat_natCast] at f1 f2;have opt:=hG.opt;have hAt: ∀v b W,Below w.heap.size w W→v64 d p=v→AtRet ng (v64 d p) s.size w (.returned (.tuple #[.float .f64 (sg+v),.int .i64 s.size,qgF b])) W:=fun v b W hB hv=>by subst hv;rw[hsgd];exact⟨⟨b,rfl⟩,hB⟩
 obtain⟨hi,hhi⟩: ∃hi,hi=sg+INF:=⟨_,rfl⟩;rw[←hhi] at o2 f2;replace hsgd:=Lh hsgd;replace hb2:=Lh hb2;replace hAt:=Lh hAt;clear H S T ht hd hp hG hl hle
 by_cases g0:d=0
 ·have u0:((d:Int)==0)=true:=by simp[g0]
  have hv:Hid (AtRet ng (v64 d p) s.size w (.returned (.tuple #[.float .f64 sg,.int .i64 s.size,.nilIface])) w):=hAt.out 0 false w (Below.refl _ _) (by unfold v64;rw[if_pos g0]);clear hae hpf hAt g0 hhi;go_enter Tryz.func263,Tryz.ntmps263;go_wp2_with fail;refine hsp.out.mono ?_;rintro x w1 ⟨rfl,rfl⟩;go_wp2_with fail;refine hrf.out.mono ?_;rintro x w1 ⟨rfl,rfl⟩;go_wp2_with fail;refine(hb2.out _).mono ?_;rintro x w1 ⟨rfl,rfl⟩;go_wp2_with fail;go_ret3;exact hv.out
 ·have u0:((d:Int)==0)=false:=by simp[g0]
  have d0:0<d:=by omega
  by_cases g1:310<p
  ·have u1:decide ((310:Int)<p)=true:=dT g1;have hv:Hid (AtRet ng (v64 d p) s.size w (.returned (.tuple #[.float .f64 hi,.int .i64 s.size,.iface 287 (.int .i64 1)])) w):=by rw[hhi];exact hAt.out INF true w (Below.refl _ _) (by unfold v64;rw[if_neg g0,if_pos g1])
   clear hhi;clear hae hpf hAt g0;go_enter Tryz.func263,Tryz.ntmps263;go_wp2_with fail;refine hsp.out.mono ?_;rintro x w1 ⟨rfl,rfl⟩;go_wp2_with fail;refine hrf.out.mono ?_;rintro x w1 ⟨rfl,rfl⟩;go_wp2_with fail;refine(hb2.out _).mono ?_;rintro x w1 ⟨rfl,rfl⟩;go_wp2_with fail;go_ret3;exact hv.out
  ·have u1:decide ((310:Int)<p)=false:=dF g1
   by_cases g2:p< -345
   ·have u2:decide (p<(-345:Int))=true:=dT g2;have hv:Hid (AtRet ng (v64 d p) s.size w (.returned (.tuple #[.float .f64 sg,.int .i64 s.size,.nilIface])) w):=hAt.out 0 false w (Below.refl _ _) (by unfold v64;rw[if_neg g0,if_neg g1,if_pos g2]);clear hae hpf hAt g0 g1 g2 hhi;go_enter Tryz.func263,Tryz.ntmps263;go_wp2_with fail;refine hsp.out.mono ?_;rintro x w1 ⟨rfl,rfl⟩;go_wp2_with fail;refine hrf.out.mono ?_;rintro x w1 ⟨rfl,rfl⟩;go_wp2_with fail;refine(hb2.out _).mono ?_;rintro x w1 ⟨rfl,rfl⟩;go_wp2_with fail;go_ret3;exact hv.out
   ·have u2:decide (p<(-345:Int))=false:=dF g2;have hv:=fun b W hB=>hAt.out (qce d (p+348).toNat) b W hB (by unfold v64;rw[if_neg g0,if_neg g1,if_neg g2])
    have hae':=Lh (hae d0 (by omega) (by omega));have hpf':=Lh (hpf d0 (by omega) (by omega));rw[show((p+348).toNat:Int) - 348=p by omega] at hpf';obtain⟨F,hF⟩: ∃F,F=qce d (p+348).toNat:=⟨_,rfl⟩;rw[←hF] at hv hae' hpf';have hv0: ∀W,Below w.heap.size w W→AtRet ng (v64 d p) s.size w (.returned (.tuple #[.float .f64 (sg+F),.int .i64 s.size,.nilIface])) W:=fun W hB=>hv false W hB
    obtain⟨er,her⟩: ∃er,er=qgF (decide (F=INF)):=⟨_,rfl⟩;have hv1: ∀W,Below w.heap.size w W→AtRet ng (v64 d p) s.size w (.returned (.tuple #[.float .f64 (sg+F),.int .i64 s.size,er])) W:=fun W hB=>by rw[her];exact hv _ W hB
    unfold qpK at hpf';rw[←her] at hpf';obtain⟨Q,hQ⟩: ∃Q,Q=sg+F:=⟨_,rfl⟩;rw[←hQ] at hv0 hv1 hpf' hae';replace hv0:=Lh hv0;replace hv1:=Lh hv1;clear hae hpf hAt g0 g1 g2 her hF hv hhi hQ;go_enter Tryz.func263,Tryz.ntmps263;go_wp2_with fail;refine hsp.out.mono ?_;rintro x w1 ⟨rfl,rfl⟩;go_wp2_with fail;refine hrf.out.mono ?_;rintro x w1 ⟨rfl,rfl⟩;go_wp2_with fail;refine(hb2.out _).mono ?_;rintro x w1 ⟨rfl,rfl⟩;go_wp2_with fail;refine hae'.out.mono ?_;rintro x w1 ⟨⟨f,ok,rfl,hok⟩,rfl⟩
    cases ok with
    |true=>
     obtain rfl:=hok rfl;go_wp2_with fail;go_ret3;exact hv0.out _ (Below.refl _ _)
    |false=>
     clear hok;go_wp2_with fail;refine hpf'.out.mono ?_;rintro x w1 ⟨rfl,hB⟩;replace hB:=Lh hB;go_wp2_with fail;go_ret3;exact hv1.out _ hB.out
structure qqD (w:World):Prop where
 f:qgu w
 er: ∃ev,w.cell? ⟨6,0,none⟩=some ev∧(ev= .nilIface∨ ∃te pe,ev= .iface te pe)
theorem qqD.on {w W:World} (h:qqD w) (hb:Below w.heap.size w W):qqD W:=by
 refine⟨h.f.on hb,?_⟩;obtain⟨ev,h1,h2⟩:=h.er;exact⟨ev,by rw[hb.cell (p:=⟨6,0,none⟩) (by have:=h.f.big;show 6<_;omega)];exact h1,h2⟩
def qvE (f:Nat) (w:World) (x:Ending) (w':World):Prop:=(∃er,x= .returned (.tuple #[.float .f64 f,er]))∧Below w.heap.size w w'
theorem qhT (s:ByteArray) (hs:s.size≤2000) (ng:Bool) (v:Nat) (w:World) (hG:qqD w) (h: ∀W,qgu W→Calls Tryz.prog 263 #[.string s] W (AtRet ng v s.size W)):
 Calls Tryz.prog 129 #[.string s,.int .i64 64] w (qvE (sgw ng+v) w):=by
 obtain⟨f,hf⟩: ∃f,f=sgw ng+v:=⟨_,rfl⟩;unfold AtRet at h;rw[←hf] at h⊢;have h1:=Lh (h w hG.f)
 have h96:Hid (Calls Tryz.prog 237 #[.string s,.int .i64 64] w (fun x w'=>(∃b,x= .returned (.tuple #[.float .f64 f,.int .i64 s.size,qgF b]))∧Below w.heap.size w w')):=by
  clear hf h hG;go_enter Tryz.func237,Tryz.ntmps237;go_wp2_with fail;refine h1.out.mono ?_;rintro x w1 ⟨⟨b,rfl⟩,hB⟩;cases b
  ·have hB':=Lh hB;clear hB;go_wp2_with fail;go_ret3;exact⟨⟨false,rfl⟩,hB'.out⟩
  ·have hB':=Lh hB;clear hB;go_wp2_with fail;go_ret3;exact⟨⟨true,rfl⟩,hB'.out⟩
 have h64:Hid (Calls Tryz.prog 184 #[.string s,.int .i64 64] w (fun x w'=>(∃b,x= .returned (.tuple #[.float .f64 f,qgF b]))∧Below w.heap.size w w')):=by
  clear hf h hG h1;go_enter Tryz.func184,Tryz.ntmps184;go_wp2_with fail;refine h96.out.mono ?_;rintro x w1 ⟨⟨b,rfl⟩,hB⟩;cases b
  ·have hB':=Lh hB;clear hB;go_wp2_with fail;go_ret2;exact⟨⟨false,rfl⟩,hB'.out⟩
  ·have hB':=Lh hB;clear hB;go_wp2_with fail;go_ret2;exact⟨⟨true,rfl⟩,hB'.out⟩
 have hte:Hid (∀W,Below w.heap.size w W→Calls Tryz.prog 185 #[.string ⟨#[80,97,114,115,101,70,108,111,97,116]⟩,.string s,.int .i64 0,.int .i64 64,.iface 287 (.int .i64 1)] W (fun x w'=> ∃er,x= .returned er∧Below W.heap.size W w')):=by
  intro W hB;obtain⟨ev,e1,e2⟩:=(hG.on hB).er;refine(Tryz.strconv_toError_range _ s 0 64 ev W (by omega) e1 e2).mono ?_;rintro x w' ⟨N,rfl,_,_,hb⟩;exact⟨_,rfl,hb⟩
 clear hf h hG h1 h96;go_enter Tryz.func129,Tryz.ntmps129;go_wp2_with fail;refine h64.out.mono ?_;rintro x w1 ⟨⟨b,rfl⟩,hB⟩;cases b
 ·have hB':=Lh hB;clear hB;rw[show qgF false=Value.nilIface from rfl];go_wp2_with fail;go_ret2;exact⟨⟨_,rfl⟩,hB'.out⟩
 ·have hB':=Lh hB;have ht:=Lh (hte.out w1 hB);clear hB hte;rw[show qgF true=Value.iface 287 (.int .i64 1)from rfl];go_wp2_with fail;refine ht.out.mono ?_;rintro x w2 ⟨er,rfl,hb2⟩;have hB2:=Lh (hB'.out.trans (hb2.mono hB'.out.size));clear hb2;go_wp2_with fail;go_ret2;exact⟨⟨_,rfl⟩,hB2.out⟩
end Go.Proofs.YtdeimnnpcfncpaaGreatDoor
