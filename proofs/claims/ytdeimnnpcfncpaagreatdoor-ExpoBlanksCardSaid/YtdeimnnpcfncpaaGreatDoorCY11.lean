/- Parts of the proof: D7 D9 D11 D12 D18 D21 D22. -/
import Derived.ScopeJumps
import Derived.OneCell
import Derived.Lib.AtoiErrMem
import Derived.Test.YtdeimnnpcfncpaaGreatDoorCY10
set_option linter.unusedVariables false
set_option linter.unusedSimpArgs false
set_option maxRecDepth 100000
set_option maxHeartbeats 64000000
namespace Go.Proofs.YtdeimnnpcfncpaaGreatDoor
open Go Go.RowKit
theorem qgN (c:UInt8) (w:World):Calls Tryz.prog 286 #[.int .u8 (c.toNat:Int)] w fun e w'=>e= .returned (.int .u8 (((c.toNat ||| 32:Nat)):Int))∧w=w':=by
 have h:=u8_or_nat c.toNat 32 c.toNat_lt (by decide);have h2:bits .or .u8 (c.toNat:Int) 32=((c.toNat ||| 32:Nat):Int):=h;have l:=c.toNat_lt;generalize c.toNat=n at*;go_enter Tryz.func286,Tryz.ntmps286;go_wp2;go_ret;exact⟨rfl,rfl⟩
def dig (c:Nat):Prop:=46≤c∧c≤57
theorem qnT (t:ByteArray) (h:0<t.size) (hs:t.size≤2000) (hc:dig (bt t 0).toNat) (w:World):Calls Tryz.prog 291 #[.string t,.string ⟨#[105,110,102,105,110,105,116,121]⟩] w fun e w'=>e= .returned (.int .i64 0)∧w=w':=by
 obtain⟨c,hcc,hB⟩:=qdd t 0 h;rw[hcc.out] at hc;have v1:decide ((65:Int)≤(c.toNat:Int))=false:=by have:=hc.2;exact dF (by omega)
 have v1':decide (65≤c.toNat)=false:=by have:=hc.2;exact dF (by omega)
 have v2:((c.toNat:Int) !=(((⟨#[105,110,102,105,110,105,116,121]⟩:ByteArray)[0]'(by decide)).toNat:Int))=true:=by
  have:=hc.2;show((c.toNat:Int) !=105)=true;simp;omega
 obtain⟨m,hm⟩: ∃m:Nat,Hid (m=min 8 t.size):=⟨_,Lh rfl⟩;have hm1:min (8:Int) (t.size:Int)=(m:Int):=by rw[hm.out];omega
 have hm0:0<m:=by rw[hm.out];omega
 have hm0':(0:Int)<m:=by omega
 clear hc hcc;go_enter Tryz.func291,Tryz.ntmps291;go_wp2_with fail;go_loop [4,6,7] (fun s4 s6 s7=>s4= .int .i64 0∧s6= .int .i64 0) (fun _ _ _=>0)
 case atStart=>exact⟨rfl,rfl⟩
 case round=>
  obtain⟨rfl,rfl⟩:=hrel;go_wp2_with fail;go_ret;exact⟨rfl,rfl⟩
theorem ext_list (s:ByteArray) (k:Nat):(s.extract k s.size).data.toList=s.data.toList.drop k:=by
 have h:s.data.size=s.size:=rfl;rw[ByteArray.data_extract,Array.toList_extract,List.extract_eq_take_drop,List.take_of_length_le];rw[List.length_drop,Array.length_toList];omega
theorem qn8 (s:ByteArray) (k i:Nat):bt (s.extract k s.size) i=bt s (k+i):=by
 unfold bt;rw[ext_list];simp[List.getD_eq_getElem?_getD,List.getElem?_drop]
theorem ext_size (s:ByteArray) (k:Nat):(s.extract k s.size).size=s.size - k:=by
 have:(s.extract k s.size).data.toList.length=(s.data.toList.drop k).length:=by rw[ext_list]
 simp at this⊢
theorem qla (s:ByteArray) (a:Nat) (ng:Bool) (h:a<s.size) (hs:s.size≤2000) (S:(a=0)∨(a=1∧((ng=false∧bt s 0=43)∨(ng=true∧bt s 0=45)))) (hc:dig (bt s a).toNat) (w:World):Calls Tryz.prog 273 #[.string s] w fun e w'=>e= .returned (.tuple #[.float .f64 0,.int .i64 0,.bool false])∧w=w':=by
 have h0:0<s.size:=by omega
 have tE: ¬s=ByteArray.empty:=fun e=>by rw[e] at h0;exact absurd h0 (by decide)
 have t0:((s.size:Int)==0)=false:=by simp;omega
 obtain⟨c,hcc,hB⟩:=qdd s 0 h0;rcases S with rfl|⟨rfl,⟨rfl,g⟩|⟨rfl,g⟩⟩
 ·rw[hcc.out] at hc;have v1:((c.toNat:Int)==43)=false:=by have:=hc.1;simp;omega
  have v2:((c.toNat:Int)==45)=false:=by have:=hc.1;simp;omega
  have v3:((c.toNat:Int)==105)=false:=by have:=hc.2;simp;omega
  have v4:((c.toNat:Int)==73)=false:=by have:=hc.2;simp;omega
  have v5:((c.toNat:Int)==110)=false:=by have:=hc.2;simp;omega
  have v6:((c.toNat:Int)==78)=false:=by have:=hc.2;simp;omega
  clear hc hcc;go_enter Tryz.func273,Tryz.ntmps273;go_wp2_with fail;go_ret3;exact⟨rfl,rfl⟩
 ·obtain rfl:c=43:=hcc.out.symm.trans g;rw[show(((43:UInt8).toNat:Int))=43 from rfl] at hB;clear hcc g;have hcp:=Lh (qnT (s.extract 1 s.size) (by rw[ext_size];omega) (by rw[ext_size];omega) (by rw[qn8];exact hc) w);clear hc;go_enter Tryz.func273,Tryz.ntmps273;go_wp2_with fail;refine hcp.out.mono ?_;rintro x w1 ⟨rfl,rfl⟩;go_wp2_with fail;go_ret3;exact⟨rfl,rfl⟩
 ·obtain rfl:c=45:=hcc.out.symm.trans g;rw[show(((45:UInt8).toNat:Int))=45 from rfl] at hB;clear hcc g;have hcp:=Lh (qnT (s.extract 1 s.size) (by rw[ext_size];omega) (by rw[ext_size];omega) (by rw[qn8];exact hc) w);clear hc;go_enter Tryz.func273,Tryz.ntmps273;go_wp2_with fail;refine hcp.out.mono ?_;rintro x w1 ⟨rfl,rfl⟩;go_wp2_with fail;go_ret3;exact⟨rfl,rfl⟩
def qbo (l:List UInt8):Nat:=(l.takeWhile isD).length
def sgd (l:List UInt8):List UInt8:=match l with| []=>[]|c::t=>if c=43∨c=45 then t else c::t
theorem qcW (l:List UInt8):qbo l≤l.length:=by unfold qbo;exact(List.takeWhile_prefix _).length_le
theorem qfV (c:UInt8) (t:List UInt8):qbo (c::t)=if isD c then qbo t+1 else 0:=by
 unfold qbo;rw[List.takeWhile_cons];split<;>rfl
theorem qas (l:List UInt8) (i:Nat) (h:i<l.length):l.drop i=l.getD i 0::l.drop (i+1):=by
 rw[List.drop_eq_getElem_cons h,List.getD_eq_getElem?_getD,List.getElem?_eq_getElem h];rfl
theorem qau (s:ByteArray):s.data.toList.length=s.size:=by simp
theorem qbn {a b:ByteArray} (h:a.data.toList=b.data.toList):a=b:=by
 cases a with
 |mk x=>cases b with
  |mk y=>cases x;cases y;simp at h;subst h;rfl
theorem qda (s:ByteArray) (hs:s.size≤2000) (w:World):Calls Tryz.prog 183 #[.string s] w fun e w'=>e= .returned (.int .i64 (qbo s.data.toList:Int))∧w=w':=by
 obtain⟨N,hN⟩: ∃N,Hid (qbo s.data.toList=N):=⟨_,Lh rfl⟩;rw[hN.out];have hlen:=Lh (qau s);go_enter Tryz.func183,Tryz.ntmps183;go_wp2_with fail;go_loop [3] (fun s3=> ∃k:Nat,k≤s.size∧s3= .int .i64 (k:Int)∧Hid (k+qbo (s.data.toList.drop k)=N)) (fun s3=>s.size - (intOf s3).toNat)
 case atStart=>exact⟨0,by omega,rfl,Lh (by rw[List.drop_zero,←hN.out];omega)⟩
 case round=>
  obtain⟨k,hk,rfl,hI⟩:=hrel
  by_cases hlt:k<s.size
  ·have u1:decide ((k:Int)<(s.size:Int))=true:=dT (by omega);have u1':decide (k<s.size)=true:=dT (by omega);obtain⟨c,hc,hB⟩:=qdd s k hlt;have hI':=hI.out;rw[qas _ k (by rw[hlen.out];exact hlt)] at hI';unfold bt at hc;rw[hc.out,qfV] at hI'
   by_cases hd:isD c=true
   ·rw[if_pos hd] at hI';have hI2:Hid (k+1+qbo (s.data.toList.drop (k+1))=N):=Lh (by omega);have hcd:=(qaB _).1 hd;have v3:decide ((48:Int)≤(c.toNat:Int))=true:=dT (by omega);have v4:decide ((c.toNat:Int)≤57)=true:=dT (by omega);have v3':decide (48≤c.toNat)=true:=dT (by omega);have v4':decide (c.toNat≤57)=true:=dT (by omega);clear hI' hI hc hd hcd;go_wp2_with fail;go_round
    case rel=>exact⟨k+1,by omega,by go_num,hI2⟩
    case measure=>simp[intOf];omega
   ·rw[if_neg hd] at hI';obtain rfl:k=N:=by omega
    have hcd: ¬(48≤c.toNat∧c.toNat≤57):=fun h=>hd ((qaB _).2 h)
    clear hI' hI hc hd hN
    by_cases h48:48≤c.toNat
    ·have v3:decide ((48:Int)≤(c.toNat:Int))=true:=dT (by omega);have v4:decide ((c.toNat:Int)≤57)=false:=dF (by omega);have v3':decide (48≤c.toNat)=true:=dT (by omega);have v4':decide (c.toNat≤57)=false:=dF (by omega);clear hcd h48;go_wp2_with fail;go_ret;exact⟨rfl,rfl⟩
    ·have v3:decide ((48:Int)≤(c.toNat:Int))=false:=dF (by omega);have v3':decide (48≤c.toNat)=false:=dF (by omega);clear hcd h48;go_wp2_with fail;go_ret;exact⟨rfl,rfl⟩
  ·obtain rfl:k=s.size:=by omega
   have hI':=hI.out;rw[List.drop_of_length_le (by rw[hlen.out];exact Nat.le_refl _)] at hI';obtain rfl:s.size=N:=by rw[←hI'];rfl
   clear hI hI' hN;go_wp2_with fail;go_ret;exact⟨rfl,rfl⟩
theorem qev (s:ByteArray) (hs:s.size≤2000) (w:World):Calls Tryz.prog 182 #[.string s] w fun e w'=>e= .returned (.string ⟨(sgd s.data.toList).toArray⟩)∧w=w':=by
 by_cases h0:0<s.size
 ·have u1:decide ((0:Int)<(s.size:Int))=true:=dT (by omega);have u1':decide (0<s.size)=true:=dT (by omega);have tE: ¬s=ByteArray.empty:=fun e=>by rw[e] at h0;exact absurd h0 (by decide)
  obtain⟨c,hc,hB⟩:=qdd s 0 h0
  have hl:s.data.toList=c::s.data.toList.drop 1:=by
   have:=qas s.data.toList 0 (by rw[qau];exact h0);rw[List.drop_zero] at this;unfold bt at hc;rw[hc.out] at this;exact this
  by_cases g:c=43∨c=45
  ·have hr:(⟨(sgd s.data.toList).toArray⟩:ByteArray)=s.extract 1 s.size:=by
    apply qbn;rw[ext_list];show sgd s.data.toList=_;rw[hl,sgd,if_pos g];rfl
   rw[hr];rcases g with rfl|rfl
   ·rw[show(((43:UInt8).toNat:Int))=43 from rfl] at hB;clear hl hr hc;go_enter Tryz.func182,Tryz.ntmps182;go_wp2_with fail;go_ret;exact⟨rfl,rfl⟩
   ·rw[show(((45:UInt8).toNat:Int))=45 from rfl] at hB;clear hl hr hc;go_enter Tryz.func182,Tryz.ntmps182;go_wp2_with fail;go_ret;exact⟨rfl,rfl⟩
  ·have hr:(⟨(sgd s.data.toList).toArray⟩:ByteArray)=s:=by
    apply qbn;show sgd s.data.toList=_;rw[hl,sgd,if_neg g]
   rw[hr];have v1:=qbS c 43 43 rfl (fun e=>g (.inl e));have v2:=qbS c 45 45 rfl (fun e=>g (.inr e));clear hl hr hc g;go_enter Tryz.func182,Tryz.ntmps182;go_wp2_with fail;go_ret;exact⟨rfl,rfl⟩
 ·have hz:s.size=0:=by omega
  have hr:(⟨(sgd s.data.toList).toArray⟩:ByteArray)=s:=by
   have:s.data.toList=[]:=List.length_eq_zero_iff.1 (by rw[qau];exact hz);apply qbn;rw[this];rfl
  rw[hr];have u1:decide ((0:Int)<(s.size:Int))=false:=dF (by omega);have u1':decide (0<s.size)=false:=dF (by omega);clear hr hz h0;go_enter Tryz.func182,Tryz.ntmps182;go_wp2_with fail;go_ret;exact⟨rfl,rfl⟩
theorem qo8 (s:ByteArray) (hs:s.size≤2000) (w:World):Calls Tryz.prog 55 #[.string s,.string ⟨#[46]⟩] w fun e w'=>e= .returned (.bool (decide (s.data.toList.head?=some 46)))∧w=w':=by
 obtain⟨b,hb⟩: ∃b,Hid (decide (s.data.toList.head?=some 46)=b):=⟨_,Lh rfl⟩;rw[hb.out]
 have h82:Hid (Calls Tryz.prog 113 #[.string s,.string ⟨#[46]⟩] w fun e w'=>e= .returned (.bool b)∧w=w'):=by
  by_cases h0:1≤s.size
  ·have u1:decide ((1:Int)≤(s.size:Int))=true:=dT (by omega);have u1':decide (1≤s.size)=true:=dT (by omega);have hl:=qas s.data.toList 0 (by rw[qau];exact h0);rw[List.drop_zero] at hl
   have hx:(s.extract 0 1).data.toList=[s.data.toList.getD 0 0]:=by
    rw[ByteArray.data_extract,Array.toList_extract,List.extract_eq_take_drop,List.drop_zero]
    conv=>lhs;rw[hl]
    rfl
   have hh:s.data.toList.head?=some (s.data.toList.getD 0 0):=by
    conv=>lhs;rw[hl]
    rfl
   obtain⟨c,hc⟩: ∃c,c=s.data.toList.getD 0 0:=⟨_,rfl⟩;rw[←hc] at hx hh;clear hl hc
   by_cases g:c=46
   ·obtain rfl:b=true:=by rw[←hb.out,hh,g];rfl
    have hE:((s.extract 0 1).toList==[46])=true:=by rw[ByteArray.toList_eq,hx,g];rfl
    clear hx hh g hb;go_enter Tryz.func113,Tryz.ntmps113;go_wp2_with fail;go_ret;exact⟨rfl,rfl⟩
   ·obtain rfl:b=false:=by rw[←hb.out,hh];exact dF (fun e=>g (Option.some.inj e))
    have hE:((s.extract 0 1).toList==[46])=false:=by rw[ByteArray.toList_eq,hx];simpa using g
    clear hx hh g hb;go_enter Tryz.func113,Tryz.ntmps113;go_wp2_with fail;go_ret;exact⟨rfl,rfl⟩
  ·have u1:decide ((1:Int)≤(s.size:Int))=false:=dF (by omega);have u1':decide (1≤s.size)=false:=dF (by omega);have hn:s.data.toList=[]:=List.length_eq_zero_iff.1 (by rw[qau];omega);obtain rfl:b=false:=by rw[←hb.out,hn];rfl
   have tE:s=ByteArray.empty:=qbn (by rw[hn];rfl);clear hn hb;subst tE;go_enter Tryz.func113,Tryz.ntmps113;go_wp2_with fail;go_ret;exact⟨rfl,rfl⟩
 clear hb;go_enter Tryz.func55,Tryz.ntmps55;go_wp2_with fail;refine h82.out.mono ?_;rintro x w1 ⟨rfl,rfl⟩;go_wp2_with fail;go_ret;exact⟨rfl,rfl⟩
def qd0:List UInt8→Bool
 | []=>true
 |c::t=>(c==101||c==69)&&(decide (1≤qbo (sgd t))&&decide (qbo (sgd t)≤5)&&(qbo (sgd t)==(sgd t).length))
def qel (l:List UInt8):Nat×List UInt8:=
 let rest:=l.drop (qbo l)
 match rest with
 | []=>(qbo l,[])
 |c::t=>if c=46 then (qbo l+qbo t,t.drop (qbo t)) else (qbo l,c::t)
def qaE (l:List UInt8):Bool:=(qel (sgd l)).1 !=0&&qd0 (qel (sgd l)).2
theorem qod (l:List UInt8):(sgd l).length≤l.length:=by
 cases l with
 |nil=>exact Nat.le_refl _
 |cons c t=>rw[sgd];split;exact Nat.le_succ _;exact Nat.le_refl _
theorem qk7 (l:List UInt8):l=[]∨ ∃c t,l=c::t:=by cases l;exact .inl rfl;exact .inr ⟨_,_,rfl⟩
theorem qkh (l:List UInt8): ∃s:ByteArray,Hid (s.data.toList=l)∧s=⟨l.toArray⟩:=⟨⟨l.toArray⟩,Lh rfl,rfl⟩
theorem qdV (s:ByteArray) (hs:s.size≤2000) (w:World):Calls Tryz.prog 128 #[.string s] w fun e w'=>e= .returned (.bool (qaE s.data.toList))∧w=w':=by
 have c1:=qev s hs w;obtain⟨s1,hl1,h1⟩:=qkh (sgd s.data.toList);rw[←h1] at c1
 have hz1:s1.size≤2000:=by
  have:=qau s1;rw[hl1.out] at this;have h2:=qau s;have h3:=qod s.data.toList;omega
 have c2:=qda s1 hz1 w;obtain⟨n,hn⟩: ∃n,n=qbo s1.data.toList:=⟨_,rfl⟩;rw[←hn] at c2;have hns:n≤s1.size:=by rw[hn,←qau];exact qcW _
 obtain⟨s4,h4⟩: ∃s4,s1.extract n s1.size=s4:=⟨_,rfl⟩;have hl4:s4.data.toList=s1.data.toList.drop n:=by rw[←h4];exact ext_list _ _
 have hz4:s4.size≤2000:=by rw[←h4,ext_size];omega
 have c3:=qo8 s4 hz4 w;obtain⟨R,hR⟩: ∃R,R=qaE s.data.toList:=⟨_,rfl⟩;rw[←hR];unfold qaE at hR;rw[←hl1.out] at hR;obtain⟨N,r,hNr⟩: ∃(N:Nat) (r:ByteArray),qel s1.data.toList=(N,r.data.toList):=⟨(qel s1.data.toList).1,⟨(qel s1.data.toList).2.toArray⟩,rfl⟩;rw[hNr] at hR;replace hR:Hid (R=(N !=0&&qd0 r.data.toList)):=hR;unfold qel at hNr;rw[←hn,←hl4] at hNr;replace hNr:=Lh hNr;replace hl4:=Lh hl4;replace c1:=Lh c1;replace c2:=Lh c2;replace c3:=Lh c3;clear hn hl1 h1
 have hrz:Hid (N≤4000∧r.size≤2000):=Lh (by
  have:=hNr.out;have hl:=qau r;dsimp only at this
  split at this
  ·simp only[Prod.mk.injEq] at this;rw[←this.2] at hl;simp at hl;omega
  ·rename_i c t hct
   have hlt:t.length+1=s4.size:=by rw[←qau s4,hct];rfl
   have hdl:=qcW t
   split at this
   ·simp only[Prod.mk.injEq] at this;rw[←this.2,List.length_drop] at hl;omega
   ·simp only[Prod.mk.injEq] at this;rw[←this.2] at hl;simp at hl
    omega)
 go_enter Tryz.func128,Tryz.ntmps128;go_wp2_with fail;refine wp_scope_jumps 0 (fun a' w'=>R=false∧w=w'∧ ∃u0 u1 u2 u3 u4 u5 u6 u7 u8 u9 u10 u11 u12 u13 u14 u15 u16 u17 u18 u19 u20 u21 u22 u23 u24 u25 u26 u27 u28 u29 u30 u31 u32 u33 u34 u35 u36 u37 u38 u39 u40 u41 u42 u43 u44 u45 u46 u47 u48 u49 u50 u51 u52 u53 u54:Value,a'=⟨#[u0,u1,u2,u3,u4,u5,u6,u7,u8,u9,u10,u11,u12,u13,u14,u15,u16,u17,u18,u19,u20,u21,u22,u23,u24,u25,u26,u27,u28,u29,u30,u31,u32,u33,u34,u35,u36,u37,u38,u39,u40,u41,u42,u43,u44,u45,u46,u47,u48,u49,u50,u51,u52,u53,u54],[]⟩) (fun _ _=>0) rfl ?_ ?_
 ·go_wp2_with fail;refine c1.out.mono ?_;rintro x w1 ⟨rfl,rfl⟩;go_wp2_with fail;refine c2.out.mono ?_;rintro x w1 ⟨rfl,rfl⟩;obtain⟨bd,hbd⟩: ∃bd,Hid (decide (s4.data.toList.head?=some 46)=bd):=⟨_,Lh rfl⟩;rw[hbd.out] at c3;go_upto_if 15 with (refine c3.out.mono ?_;rintro x w1 ⟨rfl,rfl⟩)
  clear c1 c2 c3;go_cut [3,4] (fun s3 s4 wx=>s3= .int .i64 (N:Int)∧s4= .string r∧w=wx)
  case first=>
   rcases qk7 s4.data.toList with hs4|⟨c,t,hs4⟩
   ·obtain rfl:bd=false:=by rw[←hbd.out,hs4];rfl
    have hq:=hNr.out;rw[hs4] at hq;simp only[Prod.mk.injEq] at hq;obtain⟨rfl,hq⟩:=hq;obtain rfl:s4=r:=qbn (hs4.trans hq);clear hs4 hq hbd hNr hl4 h4;go_wp2_with fail;go_meet;exact⟨rfl,rfl,rfl⟩
   ·have hq:=hNr.out;rw[hs4] at hq;dsimp only at hq
    by_cases g:c=46
    ·obtain rfl:bd=true:=by rw[←hbd.out,hs4,g];rfl
     rw[if_pos g] at hq;simp only[Prod.mk.injEq] at hq;have hz:1+t.length=s4.size:=by rw[←qau s4,hs4];simp;omega
     obtain⟨s5,h5⟩: ∃s5,s4.extract 1 s4.size=s5:=⟨_,rfl⟩;have hl5:s5.data.toList=t:=by rw[←h5,ext_list,hs4];rfl
     have hz5:s5.size≤2000:=by rw[←h5,ext_size];omega
     have c4:=qda s5 hz5 w;rw[hl5] at c4;have hdl:=qcW t;obtain⟨m,hm⟩: ∃m,m=qbo t:=⟨_,rfl⟩;rw[←hm] at c4 hq hdl;obtain⟨rfl,hq⟩:=hq;have h6:s4.extract (1+m) s4.size=r:=qbn (by rw[ext_list,hs4,←hq,Nat.add_comm,List.drop_succ_cons]);have hb1:1≤s4.size:=by omega
     have hb2:1+m≤s4.size:=by omega
     replace c4:=Lh c4;clear hq hl5 hs4 hbd hNr hl4 h4 hm hR hrz g hz hdl;go_wp2_with fail;refine c4.out.mono ?_;rintro x w1 ⟨rfl,rfl⟩;go_wp2_with fail;go_meet;exact⟨by go_num,congrArg Value.string h6,rfl⟩
    ·obtain rfl:bd=false:=by rw[←hbd.out,hs4];simpa using g
     rw[if_neg g] at hq;simp only[Prod.mk.injEq] at hq;obtain⟨rfl,hq⟩:=hq;obtain rfl:s4=r:=qbn (hs4.trans hq);clear hs4 hq hbd hNr hl4 h4;go_wp2_with fail;go_meet;exact⟨rfl,rfl,rfl⟩
  case rest=>
   obtain⟨rfl,rfl,rfl⟩:=hcut;clear hbd hNr hl4 h4;obtain⟨hN4,hr2⟩:=hrz.out
   by_cases hN:N=0
   ·have u0:((N:Int)==0)=true:=by simp[hN]
    obtain rfl:R=false:=by rw[hR.out,hN];rfl
    clear hR hrz hN;go_wp2_with fail;go_step3;exact⟨rfl,rfl,rfl,_,_,_,_,_,_,_,_,_,_,_,_,_,_,_,_,_,_,_,_,_,_,_,_,_,_,_,_,_,_,_,_,_,_,_,_,_,_,_,_,_,_,_,_,_,_,_,_,_,_,_,_,_,_,_,rfl⟩
   ·have u0:((N:Int)==0)=false:=by simp[hN]
    have hN':(N !=0)=true:=by simp[hN]
    have hR':=hR.out;rw[hN',Bool.true_and] at hR';clear hR hrz hN hN';rcases qk7 r.data.toList with hr|⟨c,t,hr⟩
    ·obtain rfl:R=true:=by rw[hR',hr];rfl
     have e1:r.toList=[]:=by rw[ByteArray.toList_eq,hr]
     have e2:r.toList.isEmpty=true:=by rw[e1];rfl
     clear hR' hr;go_wp2_with fail;simp only[Exit.jump];go_ret;exact⟨rfl,rfl⟩
    ·have e1: ¬r.toList=[]:=by rw[ByteArray.toList_eq,hr];simp
     have e2:r.toList.isEmpty=false:=by rw[ByteArray.toList_eq,hr];rfl
     have hrs:0<r.size:=by rw[←qau,hr];simp
     obtain⟨c',hc',hB⟩:=qdd r 0 hrs;obtain rfl:c=c':=by rw[←hc'.out];unfold bt;rw[hr];rfl
     clear hc';rw[hr,qd0] at hR'
     by_cases g:c=101∨c=69
     ·have g1:(c==101||c==69)=true:=by simpa using g
      rw[g1,Bool.true_and] at hR';obtain⟨s7,h7⟩: ∃s7,r.extract 1 r.size=s7:=⟨_,rfl⟩;have hl7:s7.data.toList=t:=by rw[←h7,ext_list,hr];rfl
      have hz7:s7.size≤2000:=by rw[←h7,ext_size];omega
      have c5:=qev s7 hz7 w;rw[hl7] at c5;obtain⟨s8,hl8,h8⟩:=qkh (sgd t);rw[←h8] at c5
      have hz8:s8.size≤2000:=by
       have:=qau s8;rw[hl8.out] at this;have h2:=qau s7;rw[hl7] at h2;have h3:=qod t;omega
      have c6:=qda s8 hz8 w;rw[←hl8.out,qau] at hR';obtain⟨k,hk⟩: ∃k,k=qbo s8.data.toList:=⟨_,rfl⟩;rw[←hk] at c6 hR';have hk2:k≤s8.size:=by rw[hk,←qau];exact qcW _
      replace c5:=Lh c5;replace c6:=Lh c6;replace hR':=Lh hR';clear hl7 hl8 h8 hk hr g1;have hcc:(c.toNat:Int)=101∨(c.toNat:Int)=69:=by rcases g with rfl|rfl;exact .inl rfl;exact .inr rfl
      clear g;rcases hcc with h|h
      all_goals
       rw[h] at hB;clear h;go_wp2_with fail;refine c5.out.mono ?_;rintro x w1 ⟨rfl,rfl⟩;go_wp2_with fail;refine c6.out.mono ?_;rintro x w1 ⟨rfl,rfl⟩;clear c5 c6
       by_cases k1:1≤k
       ·have a1:decide ((1:Int)≤(k:Int))=true:=dT (by omega);have a1':decide (1≤k)=true:=dT k1
        by_cases k5:k≤5
        ·have a2:decide ((k:Int)≤5)=true:=dT (by omega);have a2':decide (k≤5)=true:=dT k5
         by_cases kz:k=s8.size
         ·have a3:((k:Int)==(s8.size:Int))=true:=by simp[kz]
          obtain rfl:R=true:=by rw[hR'.out,a1',a2',kz];simp
          clear hR' k1 k5 kz;go_wp2_with fail;simp only[Exit.jump];go_ret;exact⟨rfl,rfl⟩
         ·have a3:((k:Int)==(s8.size:Int))=false:=by simp;omega
          obtain rfl:R=false:=by rw[hR'.out,show(k==s8.size)=false by simpa using kz,Bool.and_false]
          clear hR' k1 k5 kz;go_wp2_with fail;go_step3;go_wp2_with fail;simp only[Exit.jump];go_ret;exact⟨rfl,rfl⟩
        ·have a2:decide ((k:Int)≤5)=false:=dF (by omega);have a2':decide (k≤5)=false:=dF k5;obtain rfl:R=false:=by rw[hR'.out,a2'];simp
         clear hR' k1 k5;go_wp2_with fail;go_step3;go_wp2_with fail;simp only[Exit.jump];go_ret;exact⟨rfl,rfl⟩
       ·have a1:decide ((1:Int)≤(k:Int))=false:=dF (by omega);have a1':decide (1≤k)=false:=dF k1;obtain rfl:R=false:=by rw[hR'.out,a1'];simp
        clear hR' k1;go_wp2_with fail;go_step3;go_wp2_with fail;simp only[Exit.jump];go_ret;exact⟨rfl,rfl⟩
     ·obtain rfl:R=false:=by
       have g1:(c==101||c==69)=false:=by simpa using g
       rw[hR',g1,Bool.false_and]
      have v1:((c.toNat:Int) !=101)=true:=by rw[bne,qbS c 101 101 rfl (fun e=>g (.inl e))];rfl
      have v2:((c.toNat:Int) !=69)=true:=by rw[bne,qbS c 69 69 rfl (fun e=>g (.inr e))];rfl
      clear hR' hr g;go_wp2_with fail;go_step3;exact⟨rfl,rfl,rfl,_,_,_,_,_,_,_,_,_,_,_,_,_,_,_,_,_,_,_,_,_,_,_,_,_,_,_,_,_,_,_,_,_,_,_,_,_,_,_,_,_,_,_,_,_,_,_,_,_,_,_,_,_,_,_,rfl⟩
 ·rintro a' w' ⟨hF,rfl,u0,u1,u2,u3,u4,u5,u6,u7,u8,u9,u10,u11,u12,u13,u14,u15,u16,u17,u18,u19,u20,u21,u22,u23,u24,u25,u26,u27,u28,u29,u30,u31,u32,u33,u34,u35,u36,u37,u38,u39,u40,u41,u42,u43,u44,u45,u46,u47,u48,u49,u50,u51,u52,u53,u54,rfl⟩;subst hF;go_wp2_with fail;simp only[Exit.jump];go_ret;exact⟨rfl,rfl⟩
structure qdQ (w:World) (B nb bb:Nat) (l:List UInt8) (k:Nat):Prop where
 row: ∃g cap,qbU w B 5 g l.length cap (l.map qdi)∧w.heap[nb]?=some (.cells #[.slice (some ⟨g,0,none⟩) l.length cap] 78 (0,0))
 beh:w.heap[bb]?=some (.cells #[.int .i64 (k:Int)] 3 (0,0))
theorem info5:(Tryz.prog.info? 5).map (fun i=>(i.zero,i.size,i.bytes))=some (some (.int .u8 0),1,1):=by kernel_rfl
theorem cell_of_heap {w:World} {b:Nat} {v:Value} {t:TypeId} (h:w.heap[b]?=some (.cells #[v] t (0,0))):w.cell? ⟨b,0,none⟩=some v:=by
 unfold World.cell?;rw[h];rfl
theorem qbU.row {w:World} {B e g n cap:Nat} {xs:List Value} {v:Value} (h:qbU w B e g n cap xs) (hv:v= .slice (some ⟨g,0,none⟩) n cap):Row w v xs:=by
 subst hv;refine .inr ⟨g,0,cap,by rw[h.len],h.lt,by rw[h.len];exact h.cap1,h.cap2,fun i hi=>?_⟩;rw[Nat.zero_add,h.cell i (by rw[←h.len];exact hi),List.getElem?_eq_getElem hi]
theorem row_one (B:Nat) (w:World) (u:Value) (h:B≤w.heap.size):(w.alloc (.cells #[u] 5)).ownsRow B 5 1 (.slice (some ⟨w.heap.size,0,none⟩) 1 1) 1 [u]:=
 ⟨rfl,.inr ⟨w.heap.size,1,#[u],rfl,h,by show(w.heap.push _)[_]?=_;exact Array.getElem?_push_size,Nat.le_refl _,by decide,rfl,rfl⟩⟩
theorem qkr {W:World} {B e n:Nat} {v:Value} {xs:List Value} (h:W.ownsRow B e 1 v n xs) (h0:0<n): ∃g cap,v= .slice (some ⟨g,0,none⟩) n cap:=by
 rcases h.2 with ⟨_,h1⟩|⟨g,cap,cur,h1,_⟩
 ·omega
 ·exact⟨g,cap,h1⟩
theorem qj6 {w w3:World} {a:Nat} {o:Obj} {c n cap:Nat} {x:Obj} (hk: ∀row,(Value.slice (some ⟨a,0,none⟩) n cap).ownBlock≠some row→row<(w.alloc o).heap.size→w3.heap[row]?=(w.alloc o).heap[row]?) (h1:a≠c) (h2:c<w.heap.size) (h3:w.heap[c]?=some x):w3.heap[c]?=some x:=by
 rw[hk c (fun e=>h1 (Option.some.inj e)) (by simp;omega),Below.heap_alloc _ _ _ h2,h3]
theorem qef {w:World} {b:Nat} {v:Value} {t:TypeId} (h:w.heap[b]?=some (.cells #[v] t (0,0))):w.frozen? ⟨b,0,none⟩=false:=by
 unfold World.frozen?;simp only[h];simp
theorem own_ne {w:World} {B e g n cap b:Nat} {xs:List Value} {v:Value} {t:TypeId} (h:w.ownsRow B e 1 (.slice (some ⟨g,0,none⟩) n cap) n xs) (hb:w.heap[b]?=some (.cells #[v] t (0,0))) (hne:e≠t):g≠b:=by
 rcases h.2 with ⟨h0,_⟩|⟨g',cap',cur,hv,_,hg,_⟩
 ·cases h0
 ·cases hv;intro e;rw[e,hb] at hg;simp only[Option.some.injEq,Obj.cells.injEq] at hg;exact hne hg.2.1.symm
theorem qeU {w:World} {b:Nat} {v:Value} {t:TypeId} (h:w.heap[b]?=some (.cells #[v] t (0,0))) (u:Value):(w.setCell ⟨b,0,none⟩ u).heap[b]?=some (.cells #[u] t (0,0)):=by
 simp[World.setCell,Array.getElem?_modify,h]
theorem qmz {l:List UInt8}: ∀c∈l.map qdi,c.oneCell'=true:=by
 intro c hc;obtain⟨x,_,rfl⟩:=List.mem_map.1 hc;exact qns x
theorem set_mid (l T:List UInt8) (i:Nat) (h:i<l.length) (u:UInt8):(l.take (i+1)++T).set i u=l.take i++u::T:=by
 rw[List.take_add_one,List.getElem?_eq_getElem h];show(l.take i++[l[i]]++T).set i u=_;have hl:(l.take i).length=i:=List.length_take_of_le (by omega);rw[List.append_assoc,List.set_append_right _ _ (by omega),hl,Nat.sub_self];rfl
theorem qbe {A:World} {a:Addr} {k:Nat} (v:Value) (h:k≠a.block):(A.setCell a v).heap[k]?=A.heap[k]?:=Below.heap_setCell _ a v k h
theorem qiW (B nb bb:Nat) (l:List UInt8) (k:Nat) (w:World) (hl:l.length≤2000) (hd:qaR l) (h:qdQ w B nb bb l k) (hb1:B≤nb) (hne:nb≠bb):
 Calls Tryz.prog 64 #[.pointer (some ⟨nb,0,none⟩)] w fun e w'=>e= .returned (.tuple #[])∧qdQ w' B nb bb (qgC l) k∧Below B w w':=by
 obtain⟨⟨g,cap,hrow,hnb⟩,hbb⟩:=h;have c1:=cell_of_heap hnb;obtain⟨n,hn⟩: ∃n,n=l.length:=⟨_,rfl⟩;rw[←hn] at hrow c1 hl;have D0:Hid (l.drop n=[]):=Lh (by rw[hn];exact List.drop_length)
 have I0:Hid (qbU w B 5 g n cap ((l.take n++(qbY (l.drop n)).1).map qdi)):=Lh (by
  rw[D0.out,show l.take n=l by rw[hn,List.take_length]];show qbU w B 5 g n cap ((l++[]).map qdi)
  rw[List.append_nil];exact hrow)
 have hgn:g≠nb:=hrow.ne hnb (by decide);have hgb:g≠bb:=hrow.ne hbb (by decide);have hgB:B≤g:=hrow.low;replace hn:=Lh hn;replace hrow:=Lh hrow;replace hnb:=Lh hnb;replace hbb:=Lh hbb;go_enter Tryz.func64,Tryz.ntmps64;go_wp2_with fail;go_loopg [1,2,3] (n+1) (fun gk s1 s2 s3 wx=> ∃(j:Nat),j<gk∧j≤n∧s1= .int .u8 ((qbY (l.drop j)).2:Int)∧s2= .int .i64 ((j:Int) - 1)∧Hid (qbU wx B 5 g n cap ((l.take j++(qbY (l.drop j)).1).map qdi))∧Hid (wx.heap[nb]?=w.heap[nb]?)∧Hid (wx.heap[bb]?=w.heap[bb]?)∧Hid (Below B w wx))
 case atStart=>exact⟨n,by omega,by omega,by rw[D0.out];rfl,by go_num,I0,Lh rfl,Lh rfl,Lh (Below.refl _ _)⟩
 case round=>
  obtain⟨j,hjg,hjn,rfl,rfl,I,N1,N2,BB⟩:=hrel;have hnbw:Hid (wr.heap[nb]?=some (.cells #[.slice (some ⟨g,0,none⟩) n cap] 78 (0,0))):=Lh (by rw[N1.out,hnb.out,←hn.out]);have hc1:wr.cell? ⟨nb,0,none⟩=some (.slice (some ⟨g,0,none⟩) n cap):=cell_of_heap hnbw.out;clear I0 D0 c1
  by_cases hj:j=0
  ·subst hj;rw[List.drop_zero] at I⊢;rw[List.take_zero,List.nil_append] at I;rw[show(((0:Nat):Int) - 1)= -1 from rfl];obtain⟨d1,d2,d3⟩:=qd7 l hd;have hdef:qgC l=if (qbY l).2=0 then (qbY l).1 else UInt8.ofNat (48+(qbY l).2)::(qbY l).1:=rfl
   obtain⟨r,hr⟩: ∃r,r=(qbY l).2:=⟨_,rfl⟩;obtain⟨T,hT⟩: ∃T,T=(qbY l).1:=⟨_,rfl⟩;rw[←hr,←hT] at hdef;rw[←hr] at d1⊢;rw[←hT] at I d3
   by_cases hr0:r=0
   ·rw[if_pos hr0] at hdef;subst hr0;rw[show((0:Nat):Int)=0 from rfl];have hfin:Hid (qdQ wr B nb bb (qgC l) k∧Below B w wr):=Lh ⟨⟨⟨g,cap,by rw[hdef,d3,←hn.out];exact I.out,by rw[hdef,d3,←hn.out];exact hnbw.out⟩,by rw[N2.out];exact hbb.out⟩,BB.out⟩;clear hdef d1 d2 d3 hr hT hjg hjn;go_wp2_with fail;go_end0;exact⟨rfl,hfin.out⟩
   ·obtain rfl:r=1:=by omega
    rw[if_neg (by decide)] at hdef;rw[show((1:Nat):Int)=1 from rfl]
    have hsz:nb<wr.heap.size:=by
     rcases Nat.lt_or_ge nb wr.heap.size with h|h
     ·exact h
     ·have:=hnbw.out;rw[Array.getElem?_eq_none h] at this;cases this
    have hsb:bb<wr.heap.size:=by
     rcases Nat.lt_or_ge bb wr.heap.size with h|h
     ·exact h
     ·have:=N2.out;rw[Array.getElem?_eq_none h,hbb.out] at this;cases this
    clear hr hT hjg hjn;replace hdef:=Lh hdef;replace d3:=Lh d3;have hI1:(wr.alloc (.cells #[.int .u8 49] 5)).ownsRow B 5 1 (.slice (some ⟨wr.heap.size,0,none⟩) 1 1) 1 [.int .u8 49]:=row_one B wr (.int .u8 49) (by omega)
    have hI2:Row (wr.alloc (.cells #[.int .u8 49] 5)) (.slice (some ⟨g,0,none⟩) n cap) (T.map qdi):=by
     exact qbU.row (I.out.oth (Below.heap_alloc _ _ _ I.out.lt)) rfl
    have hlen:Hid ((T.map qdi).length=n):=Lh (by rw[List.length_map,d3.out,hn.out]);have hbig:(1+(T.map qdi).length)*1≤140737488355328:=by rw[hlen.out];omega
    have hBs:B≤(wr.alloc (.cells #[.int .u8 49] 5)).heap.size:=by simp;omega
    replace hI1:=Lh hI1;replace hI2:=Lh hI2;replace hbig:=Lh hbig;go_wp2_with (at_builtin;go_must (refine qoE rfl (.tmp 31) (.tmp 32) 78 rfl B 5 (.int .u8 0) 1 Tryz.underlying78 info5 rfl _ 1 _ rfl _ _ rfl hI1.out hI2.out qmz (by omega) hbig.out hBs ?_);rintro v2 w3 hown' hb3 hkeep _;rw[hlen.out] at hown';obtain⟨g2,cap2,rfl⟩:=qkr hown' (by omega);have q1:=qj6 hkeep (by omega) hsz hnbw.out;have q2:=qj6 hkeep (by omega) hsb (N2.out.trans hbb.out);have q3:=cell_of_heap q1;have q4:=qef q1;have Q1:=Lh q1;have Q2:=Lh q2;have hown:=Lh hown';have hb4:=Lh hb3;clear hown' hb3 hkeep q1 q2);go_end0;have hg2:g2≠nb:=own_ne hown.out Q1.out (by decide);have hdl:(qgC l).length=1+n:=by rw[hdef.out,List.length_cons,d3.out,←hn.out,Nat.add_comm]
    have hmap:(qgC l).map qdi=[.int .u8 49]++T.map qdi:=by rw[hdef.out];rfl
    refine⟨rfl,⟨⟨g2,cap2,?_,?_⟩,?_⟩,?_⟩
    ·rw[hdl,hmap];exact(qbU.of_own hown.out).oth (qbe _ hg2)
    ·rw[hdl];exact qeU Q1.out _
    ·rw[qbe _ (Ne.symm hne)];exact Q2.out
    ·exact(BB.out.trans (((Below.refl B wr).alloc (by omega) _).trans hb4.out)).setCell hb1 _
  ·obtain⟨i,rfl⟩: ∃i,j=i+1:=⟨j - 1,by omega⟩;rw[show(((i+1:Nat):Int) - 1)=(i:Int) by omega];have hil:i<l.length:=by rw[←hn.out];omega
   have hfz:=I.out.frozen i (Nat.lt_of_lt_of_le (by omega) I.out.cap1);have hat:=qlg l i hil;have hbd:=qd7 (l.drop (i+1)) (fun x hx=>hd x (List.mem_of_mem_drop hx))
   have hcell:wr.cell? ⟨g,i,none⟩=some (qdi (l.getD i 0)):=by
    rw[I.out.cell i (by omega)];rw[List.getElem?_map,List.getElem?_append_left (by rw[List.length_take];omega),List.getElem?_take,if_pos (by omega),List.getElem?_eq_getElem hil,List.getD_eq_getElem?_getD,List.getElem?_eq_getElem hil];rfl
   have hx:=hd (l.getD i 0) (by rw[List.getD_eq_getElem?_getD,List.getElem?_eq_getElem hil];exact List.getElem_mem _);obtain⟨c,hc⟩: ∃c,c=l.getD i 0:=⟨_,rfl⟩;obtain⟨r,hr⟩: ∃r,r=(qbY (l.drop (i+1))).2:=⟨_,rfl⟩;rw[←hc] at hat hcell hx;rw[←hr] at hat hbd⊢;obtain⟨x,hxc⟩: ∃x,x=c.toNat:=⟨_,rfl⟩;have hcell2:wr.cell? ⟨g,i,none⟩=some (.int .u8 (x:Int)):=by rw[hcell,hxc];rfl
   rw[←hxc] at hx hat;obtain⟨hx1,hx2⟩:=hx;have hr1:=hbd.1;obtain⟨y,hy⟩: ∃y,y=2*(x - 48)+r:=⟨_,rfl⟩;have y1:(2:Int)*((x:Int) - 48)+(r:Int)=(y:Int):=by omega
   have y2:y≤19:=by omega
   rw[←hy] at hat;have x1:(48:Int)≤x:=by omega
   have x2:(x:Int)≤57:=by omega
   have r1:(r:Int)≤1:=by omega
   have i1:decide ((0:Int)≤(i:Int))=true:=dT (by omega);replace hat:=Lh hat;replace hbd:=Lh hbd;replace hil:=Lh hil;clear hcell hc hr hxc hy;go_wp2_with fail
   have hnext: ∀v:Value,v= .int .u8 (48+(y:Int)%10)→Hid (qbU (wr.setCell ⟨g,i,none⟩ v) B 5 g n cap ((l.take i++(qbY (l.drop i)).1).map qdi)):=by
    intro v hv;have:=I.out.store i v;rw[hat.out];have he:v=qdi (UInt8.ofNat (48+y%10)):=by rw[hv];unfold qdi;rw[qaV _ (by omega)];rfl
    rw[he] at this⊢;rw[←List.map_set,set_mid l _ i hil.out] at this;exact Lh this
   go_roundg (gk - 1)
   case measure=>omega
   case rel=>exact⟨i,by omega,by omega,by rw[hat.out];go_num,by go_num,hnext _ rfl,Lh ((qbe _ (Ne.symm hgn)).trans N1.out),Lh ((qbe _ (Ne.symm hgb)).trans N2.out),Lh (BB.out.setCell hgB _)⟩
theorem qoS (A l:List UInt8) (i:Nat) (hA:A.length=i) (h:i<l.length) (u:UInt8):(A++l.drop i).set i u=(A++[u])++l.drop (i+1):=by
 rw[List.drop_eq_getElem_cons h,List.set_append_right _ _ (by omega),hA,Nat.sub_self];show A++(u::l.drop (i+1))=_;rw[List.append_assoc];rfl
theorem qjv (B nb bb:Nat) (l:List UInt8) (k:Nat) (w:World) (hl:l.length≤2000) (hk:k≤2000) (hd:qaR l) (h:qdQ w B nb bb l k) (hb1:B≤nb) (hb2:B≤bb) (hne:nb≠bb):
 Calls Tryz.prog 65 #[.pointer (some ⟨nb,0,none⟩),.pointer (some ⟨bb,0,none⟩)] w fun e w'=>e= .returned (.tuple #[])∧qdQ w' B nb bb (qfw l) (k+qeE l)∧Below B w w':=by
 obtain⟨⟨g,cap,hrow,hnb⟩,hbb⟩:=h;have c1:=cell_of_heap hnb;obtain⟨n,hn⟩: ∃n,n=l.length:=⟨_,rfl⟩;rw[←hn] at hrow c1 hl;have hgn:g≠nb:=hrow.ne hnb (by decide);have hgb:g≠bb:=hrow.ne hbb (by decide);have hgB:B≤g:=hrow.low;have I0:Hid (qbU w B 5 g n cap ((([]:List UInt8)++l.drop 0).map qdi)):=Lh (by rw[List.drop_zero,List.nil_append];exact hrow);replace hn:=Lh hn;replace hrow:=Lh hrow;replace hnb:=Lh hnb;replace hbb:=Lh hbb;go_enter Tryz.func65,Tryz.ntmps65;go_wp2_with fail;go_loopg [2,3,4,7] (n+1) (fun gk s2 s3 s4 s7 wx=> ∃(i r:Nat) (A:List UInt8),n - i<gk∧i≤n∧r≤1∧s2= .int .u8 (r:Int)∧s7= .int .i64 (i:Int)∧Hid (A.length=i)∧Hid (qcH 0 l=(A++(qcH r (l.drop i)).1,(qcH r (l.drop i)).2))∧Hid (qbU wx B 5 g n cap ((A++l.drop i).map qdi))∧Hid (wx.heap[nb]?=w.heap[nb]?)∧Hid (wx.heap[bb]?=w.heap[bb]?)∧Hid (Below B w wx))
 case atStart=>exact⟨0,0,[],by omega,by omega,by omega,rfl,rfl,Lh rfl,Lh (by rw[List.drop_zero];rfl),I0,Lh rfl,Lh rfl,Lh (Below.refl _ _)⟩
 case round=>
  obtain⟨i,r,A,hig,hin,hr1,rfl,rfl,hA,hC,I,N1,N2,BB⟩:=hrel;have hnbw:Hid (wr.heap[nb]?=some (.cells #[.slice (some ⟨g,0,none⟩) n cap] 78 (0,0))):=Lh (by rw[N1.out,hnb.out,←hn.out]);have hc1:wr.cell? ⟨nb,0,none⟩=some (.slice (some ⟨g,0,none⟩) n cap):=cell_of_heap hnbw.out;clear I0 c1
  by_cases hlt:i<n
  ·have hil:i<l.length:=by rw[←hn.out];exact hlt
   have hat:=qkw r l i hil
   have hcell:wr.cell? ⟨g,i,none⟩=some (qdi (l.getD i 0)):=by
    rw[I.out.cell i (by omega)];rw[List.getElem?_map,List.getElem?_append_right (by rw[hA.out];exact Nat.le_refl _),hA.out,Nat.sub_self,List.getElem?_drop,Nat.add_zero,List.getElem?_eq_getElem hil,List.getD_eq_getElem?_getD,List.getElem?_eq_getElem hil];rfl
   have hfz:=I.out.frozen i (Nat.lt_of_lt_of_le (by omega) I.out.cap1);have hx:=hd (l.getD i 0) (by rw[List.getD_eq_getElem?_getD,List.getElem?_eq_getElem hil];exact List.getElem_mem _);obtain⟨c,hc⟩: ∃c,c=l.getD i 0:=⟨_,rfl⟩;rw[←hc] at hat hcell hx;obtain⟨x,hxc⟩: ∃x,x=c.toNat:=⟨_,rfl⟩;have hcell2:wr.cell? ⟨g,i,none⟩=some (.int .u8 (x:Int)):=by rw[hcell,hxc];rfl
   rw[←hxc] at hx hat;obtain⟨hx1,hx2⟩:=hx;obtain⟨y,hy⟩: ∃y,y=10*r+(x - 48):=⟨_,rfl⟩;have y1:(10:Int)*(r:Int)+(x:Int) - 48=(y:Int):=by omega
   have y2:y≤19:=by omega
   rw[←hy] at hat;have x1:(48:Int)≤x:=by omega
   have x2:(x:Int)≤57:=by omega
   have r1:(r:Int)≤1:=by omega
   have i1:decide ((i:Int)<(n:Int))=true:=dT (by omega);have i1':decide (i<n)=true:=dT hlt
   have hC2:Hid (qcH 0 l=((A++[UInt8.ofNat (48+y/2)])++(qcH (y%2) (l.drop (i+1))).1,(qcH (y%2) (l.drop (i+1))).2)):=Lh (by
    have:=hC.out;rw[hat] at this
    rw[this,List.append_assoc];rfl)
   replace hil:=Lh hil;have hA2:Hid ((A++[UInt8.ofNat (48+y/2)]).length=i+1):=Lh (by rw[List.length_append,hA.out];rfl);clear hcell hc hxc hy hat hC;go_wp2_with fail
   have hnext: ∀v:Value,v= .int .u8 (48+(y:Int)/2)→Hid (qbU (wr.setCell ⟨g,i,none⟩ v) B 5 g n cap (((A++[UInt8.ofNat (48+y/2)])++l.drop (i+1)).map qdi)):=by
    intro v hv;have:=I.out.store i v;have he:v=qdi (UInt8.ofNat (48+y/2)):=by rw[hv];unfold qdi;rw[qaV _ (by omega)];rfl
    rw[he] at this⊢;rw[←List.map_set,qoS A l i hA.out hil.out] at this;exact Lh this
   go_roundg (gk - 1)
   case measure=>omega
   case rel=>exact⟨i+1,y%2,A++[UInt8.ofNat (48+y/2)],by omega,by omega,by omega,by go_num,by go_num,hA2,hC2,hnext _ rfl,Lh ((qbe _ (Ne.symm hgn)).trans N1.out),Lh ((qbe _ (Ne.symm hgb)).trans N2.out),Lh (BB.out.setCell hgB _)⟩
  ·obtain rfl:i=n:=by omega
   have hdr:l.drop i=[]:=List.drop_of_length_le (by rw[hn.out];exact Nat.le_refl _);have hC':=hC.out;have I':=I.out;rw[hdr] at hC' I';have i1:decide ((i:Int)<(i:Int))=false:=dF (by omega);rw[List.append_nil] at I'
   change qcH 0 l=(A++[],r)at hC'
   rw[List.append_nil] at hC';have hdef:qfw l=if r=0 then A else A++[53]:=by unfold qfw;rw[hC']
   have hdeK:qeE l=if r=0 then 0 else 1:=by unfold qeE;rw[hC']
   clear hC I hdr hC'
   by_cases hr0:r=0
   ·rw[if_pos hr0] at hdef hdeK;subst hr0;rw[show((0:Nat):Int)=0 from rfl];have hfin:Hid (qdQ wr B nb bb (qfw l) (k+qeE l)∧Below B w wr):=Lh ⟨⟨⟨g,cap,by rw[hdef,hA.out];exact I',by rw[hdef,hA.out];exact hnbw.out⟩,by rw[hdeK,N2.out];exact hbb.out⟩,BB.out⟩;clear hdef hdeK hig I';go_wp2_with fail;go_end0;exact⟨rfl,hfin.out⟩
   ·obtain rfl:r=1:=by omega
    rw[if_neg (by decide)] at hdef hdeK;rw[show((1:Nat):Int)=1 from rfl]
    have hsz:nb<wr.heap.size:=by
     rcases Nat.lt_or_ge nb wr.heap.size with h|h
     ·exact h
     ·have:=hnbw.out;rw[Array.getElem?_eq_none h] at this;cases this
    have hsb:bb<wr.heap.size:=by
     rcases Nat.lt_or_ge bb wr.heap.size with h|h
     ·exact h
     ·have:=N2.out;rw[Array.getElem?_eq_none h,hbb.out] at this;cases this
    have hBs:B≤wr.heap.size:=by omega
    have hk1:(k:Int)≤2000:=by omega
    clear hig;replace hdef:=Lh hdef;replace hdeK:=Lh hdeK;replace I':=Lh I';go_wp2_with (at_builtin;go_must (refine qmO rfl (.tmp 29) (.tmp 30) 78 rfl (u:= .int .u8 53) B (.int .u8 0) Tryz.underlying78 info5 rfl g i cap _ rfl rfl I'.out rfl (by omega) hBs ?_);rintro g2 cap2 w3 hown' hb3 hkeep;have q1:=(hkeep nb (Ne.symm hgn) hsz).trans hnbw.out;have q2:=(hkeep bb (Ne.symm hgb) hsb).trans (N2.out.trans hbb.out);have q3:=cell_of_heap q1;have q4:=qef q1;have q5:=cell_of_heap q2;have q6:=qef q2;have Q1:=Lh q1;have Q2:=Lh q2;have hown:=Lh hown';have hb4:=Lh hb3;clear hown' hb3 hkeep q1 q2);go_end0;have hg2:g2≠nb:=hown.out.ne Q1.out (by decide);have hg3:g2≠bb:=hown.out.ne Q2.out (by decide);have hdl:(qfw l).length=i+1:=by rw[hdef.out,List.length_append,hA.out];rfl
    have hmap:(qfw l).map qdi=A.map qdi++[.int .u8 53]:=by rw[hdef.out,List.map_append];rfl
    refine⟨rfl,⟨⟨g2,cap2,?_,?_⟩,?_⟩,?_⟩
    ·rw[hdl,hmap];exact(hown.out.oth (qbe (a:=⟨nb,0,none⟩) _ hg2)).oth (qbe (a:=⟨bb,0,none⟩) _ hg3)
    ·rw[hdl,qbe _ hne];exact qeU Q1.out _
    ·rw[hdeK.out];exact qeU ((qbe _ (Ne.symm hne)).trans Q2.out) _
    ·exact((BB.out.trans hb4.out).setCell hb1 _).setCell hb2 _
theorem qjo (w1:World) (B:Nat) (S:ByteArray) (l:List UInt8) (hS:S.data.toList=l) (hB:B≤w1.heap.size) (hl:l.length≤2000):qbU (Lib.bytesWorld w1 5 S) B 5 w1.heap.size l.length (grownCap w1 S.size 0 5) (l.map qdi):=by
 have hz:S.size=l.length:=by rw[←hS];simp
 have hge:=grownCap_ge w1 S.size 0 5;have hcm:=grownCap_le_maxLen w1 S.size 0 5 (by unfold maxLen;omega)
 have hsz:(Lib.bytesCells w1 5 S).size=grownCap w1 S.size 0 5:=by
  unfold Lib.bytesCells;simp;omega
 refine⟨by simp,hB,by omega,hcm,Lib.bytesCells w1 5 S,_,Lib.bytesWorld_at_new w1 5 S,.inr ?_,hsz,?_⟩
 ·show grownCap w1 S.size 0 5≤(Lib.bytesCells w1 5 S).size;omega
 ·unfold Lib.bytesCells;rw[Array.toList_append,Array.toList_map,hS,List.take_append_of_le_length (by simp),List.take_of_length_le (by simp)];rfl
theorem qlr (w1:World) (B:Nat) (S:ByteArray) (l:List UInt8) (hS:S.data.toList=l) (hB:B≤w1.heap.size) (hl:l.length≤2000) (W2:World) (hW:W2=Lib.bytesWorld w1 5 S):
 qdQ ((W2.alloc (.cells #[.slice (some ⟨w1.heap.size,0,none⟩) S.size (grownCap w1 S.size 0 5)] 78)).alloc (.cells #[.int .i64 0] 3)) B W2.heap.size (W2.heap.size+1) l 0∧Below B w1 ((W2.alloc (.cells #[.slice (some ⟨w1.heap.size,0,none⟩) S.size (grownCap w1 S.size 0 5)] 78)).alloc (.cells #[.int .i64 0] 3)):=by
 have hz:S.size=l.length:=by rw[←hS];simp
 have hr:=qjo w1 B S l hS hB hl;rw[←hW] at hr;have h1:W2.heap.size=w1.heap.size+1:=by rw[hW];exact Lib.bytesWorld_size w1 5 S
 have hb:Below B w1 W2:=by rw[hW];exact(Lib.bytesWorld_below w1 5 S).mono hB
 refine⟨⟨⟨w1.heap.size,grownCap w1 S.size 0 5,?_,?_⟩,?_⟩,(hb.alloc (by omega) _).alloc (by simp;omega) _⟩
 ·refine hr.oth ?_;rw[Below.heap_alloc _ _ _ (by simp;omega),Below.heap_alloc _ _ _ (by omega)]
 ·rw[Below.heap_alloc _ _ _ (by simp),hz];show(W2.heap.push _)[W2.heap.size]?=_;exact Array.getElem?_push_size
 ·show((W2.alloc _).heap.push _)[W2.heap.size+1]?=_;have:W2.heap.size+1=(W2.alloc (.cells #[.slice (some ⟨w1.heap.size,0,none⟩) S.size (grownCap w1 S.size 0 5)] 78)).heap.size:=by simp
  rw[this];exact Array.getElem?_push_size
theorem qbU.piece {w:World} {B g n cap:Nat} {l:List UInt8} (h:qbU w B 5 g n cap (l.map qdi)) (hn:n=l.length) (i j:Nat) (hij:i+j≤l.length) (o c:Nat) (ho:o=i∨j=0):
 (convert 78 9 (.slice (some ⟨g,o,none⟩) j c)).run Tryz.prog w= .ok (.string ⟨((l.drop i).take j).toArray⟩) w:=by
 have hl:((l.drop i).take j).length=j:=by rw[List.length_take,List.length_drop];omega
 have:=run_convert_bytes_back (P:=Tryz.prog) w 78 9 5 ⟨g,o,none⟩ c ((l.drop i).take j) Tryz.underlying78 Tryz.underlying5 Tryz.underlying9 (fun k hk=>by
  rw[hl] at hk;rcases ho with rfl|rfl
  ·have:=h.cell (o+k) (by omega);rw[List.getElem?_map,List.getElem?_eq_getElem (by omega)] at this;rw[show(⟨g,o,none⟩:Addr).add k=⟨g,o+k,none⟩ by simp[Addr.add],this];simp[qdi]
  ·omega)
 rw[hl] at this;exact this
theorem qmd (F:Nat) (h:F<18446744073709551616):(Lib.decDigits F).length≤20:=by
 have: ∀k F:Nat,0<k→F<10^k→(Lib.decDigits F).length≤k:=by
  intro k
  induction k with
  |zero=>intro F h;omega
  |succ k ih=>
   intro F _ hF;rw[Lib.decDigits]
   split
   ·simp
   ·rename_i h10
    have h1:F/10<10^k:=by rw[Nat.div_lt_iff_lt_mul (by decide)];rw[Nat.pow_succ] at hF;exact hF
    have hk:0<k:=by
     rcases Nat.eq_zero_or_pos k with rfl|hk
     ·simp at hF;omega
     ·exact hk
    have:=ih (F/10) hk h1;simp only[List.length_append,List.length_cons,List.length_nil];omega
 exact this 20 F (by decide) (by omega)
theorem qci (F:Nat):qaR (Lib.decDigits F):=by
 induction F using Nat.strongRecOn with
 |_ F ih=>
  rw[Lib.decDigits]
  split
  ·rename_i h
   intro c hc;rw[List.mem_singleton] at hc;subst hc;rw[qaV _ (by omega)];omega
  ·rename_i h
   intro c hc;rw[List.mem_append] at hc;rcases hc with hc|hc
   ·exact ih (F/10) (by omega) c hc
   ·rw[List.mem_singleton] at hc;subst hc;rw[qaV _ (by omega)];omega
theorem qj8 {a b:ByteArray} (h:a.data.toList=b.data.toList):a=b:=by
 cases a with
 |mk x=>cases b with
  |mk y=>cases x;cases y;simp at h;subst h;rfl
theorem qmW (l:List UInt8):(Lib.trimLeftB l 48).length≤l.length:=(List.dropWhile_suffix _).length_le
theorem qlU (l:List UInt8):(Lib.trimRightB l 48).length≤l.length:=by
 unfold Lib.trimRightB;rw[List.length_reverse];exact Nat.le_trans (List.dropWhile_suffix _).length_le (by simp)
theorem qq3 (l:List UInt8) (w:World):Calls Tryz.prog 40 #[.string ⟨l.toArray⟩,.string ⟨#[48]⟩] w fun e w'=>e= .returned (.string ⟨(Lib.trimLeftB l 48).toArray⟩)∧w=w':=
 (Tryz.strings_TrimLeft_one ⟨l.toArray⟩ 48 (by decide) w).mono fun e w' h=>⟨h.1,h.2.symm⟩
theorem qtl (l:List UInt8) (hl:l.length≤2000) (w:World):Calls Tryz.prog 66 #[.string ⟨l.toArray⟩,.string ⟨#[48]⟩] w fun e w'=>e= .returned (.string ⟨(Lib.trimRightB l 48).toArray⟩)∧w=w':=
 (Tryz.strings_TrimRight_one ⟨l.toArray⟩ 48 (by decide) w (by show l.toArray.size≤_;simp;omega)).mono fun e w' h=>⟨h.1,h.2.symm⟩
end Go.Proofs.YtdeimnnpcfncpaaGreatDoor
