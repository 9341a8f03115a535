/- Parts of the proof: T1 T2 T3 T4a T7. -/
import Derived.Maps.OwnSet
import Derived.Maps.RangeWalk
import Derived.Maps.Views
import Derived.Maps.AppendAt
import Derived.Sort.KeysCollected
import Derived.Sort.OwnSorted
import Derived.ArgAppend
import Derived.Test.YtdeimnnpcfncpaaGreatDoorCY38
import Derived.Test.YtdeimnnpcfncpaaGreatDoorCY40
set_option linter.unusedVariables false
set_option linter.unusedSimpArgs false
set_option maxRecDepth 100000
set_option maxHeartbeats 64000000
section
namespace Go.Proofs.YtdeimnnpcfncpaaGreatDoor.X
open Go Go.RowKit Go.Maps
def qo0:List Value→Option (DataW Unit×List MemPlace)
 | [.string a,.string b]=>some (.agg [.lit (.string a.data.toList),.lit (.string b.data.toList)],[])
 |_=>none
def qfJ (v:Value):Option (DataW Unit×List MemPlace):=
 match v with
 | .agg cs=>qo0 cs.toList
 |_=>none
def qlu (x:Lb):DataW Unit:= .agg [.lit (.string x.1),.lit (.string x.2)]
theorem qkT (x:Lb):qfJ (.agg #[.string (BS x.1),.string (BS x.2)])=some (qlu x,[]):=by
 simp[qfJ,qo0,qlu,BS]
theorem qlR {v:Value} {y:DataW Unit×List MemPlace} (h:qfJ v=some y): ∃x:Lb,v= .agg #[.string (BS x.1),.string (BS x.2)]∧y=(qlu x,[]):=by
 cases v<;>simp only[qfJ] at h<;>try cases h
 rename_i cs
 obtain⟨l⟩:=cs;simp only at h;unfold qo0 at h
 split at h
 ·rename_i a b
  refine⟨(a.data.toList,b.data.toList),?_,?_⟩
  ·show _=Value.agg #[.string (BS a.data.toList),.string (BS b.data.toList)];rw[qof,qof]
  ·cases h;rfl
 ·cases h
theorem u9s:Tryz.prog.underlying 9=some .string:=by kernel_rfl
theorem qs4:Tryz.prog.underlying 102=some (.map 9 44):=by kernel_rfl
theorem qsz:Keyed Tryz.prog 9:=string_keyed u9s
theorem qrK (l:List UInt8) (h:l.length≤maxLen):keyOf Tryz.prog 9 (.string (BS l))=some (.string l):=by
 have:=WideMaps.keyOf_string_mk (P:=Tryz.prog) u9s (s:=BS l) (by rw[qac];exact h);rwa[show(BS l).data.toList=l by simp[BS]] at this
def qg4 (D:DataW Unit) (f:Tf):Prop:=IsMap D∧(∀n,has D (.string n)=(f n).isSome)∧ ∀n v,f n=some v→ ∀zd,D.atKey (.string n) zd=qlu (n,v)
theorem qsK:qg4 (.map []) tf0:=⟨isMap_empty,fun n=>rfl,fun n v h=>by cases h⟩
theorem qi9 (n:List UInt8):WideAt.IsKeyLit (.string n):=by simp[WideAt.IsKeyLit]
theorem qgg {a b:List UInt8} (h:a≠b):(Lit.string a)≠ .string b:=fun e=>h (by cases e;rfl)
theorem qg4.put {D:DataW Unit} {f:Tf} (h:qg4 D f) (x:Lb) (he:emp x=false):qg4 (D.put (.string x.1) (qlu x)) (qhI f x):=by
 obtain⟨h1,h2,h3⟩:=h;refine⟨h1.put _ _,fun n=>?_,fun n v hv zd=>?_⟩
 ·unfold qhI
  by_cases hn:n=x.1
  ·subst hn;rw[has_put_same h1 (qi9 _),if_pos rfl,if_neg (by rw[he];decide)];rfl
  ·rw[has_put_other (qgg hn),if_neg hn,h2]
 ·unfold qhI at hv
  by_cases hn:n=x.1
  ·subst hn;rw[if_pos rfl,if_neg (by rw[he];decide)] at hv;rw[atKey_put_same h1 (qi9 _),←Option.some.inj hv]
  ·rw[if_neg hn] at hv;rw[atKey_put_other (qgg hn)];exact h3 n v hv zd
theorem qg4.del {D:DataW Unit} {f:Tf} (h:qg4 D f) (x:Lb) (he:emp x=true):qg4 (D.del (.string x.1)) (qhI f x):=by
 obtain⟨h1,h2,h3⟩:=h;refine⟨h1.del _,fun n=>?_,fun n v hv zd=>?_⟩
 ·unfold qhI
  by_cases hn:n=x.1
  ·subst hn;rw[has_del_same,if_pos rfl,if_pos he];rfl
  ·rw[has_del_other (qgg hn),if_neg hn,h2]
 ·unfold qhI at hv
  by_cases hn:n=x.1
  ·subst hn;rw[if_pos rfl,if_pos he] at hv;cases hv
  ·rw[if_neg hn] at hv;rw[atKey_del_other (qgg hn)];exact h3 n v hv zd
theorem qeP {b:Nat} {w w':World} (h:w.grownBy w' (some b)):Only b w w':=⟨h.os,h.tape,h.output,h.size,fun k hk hn=>h.block k hk (fun e=>hn (Option.some.inj e))⟩
theorem qaN.onMap {W W':World} {v:Value} {ls:List Lb} {b n:Nat} {D:DataW Unit} (h:qaN W v ls) (hm:W.ownsMap Tryz.prog 9 qfJ b n D) (hb:Only b W W'):qaN W' v ls:=by
 rcases h with h|⟨g,off,c,h1,h2,h3,h4,h5⟩
 ·exact .inl h
 ·refine .inr ⟨g,off,c,h1,Nat.lt_of_lt_of_le h2 hb.size,h3,h4,fun i hi=>?_⟩;obtain⟨x1,x2⟩:=h5 i hi
  have hne:g≠b:=by
   rintro rfl;obtain⟨es,clock,he,_⟩:=hm;unfold World.cell? at x1;simp only[he] at x1;cases x1
  have e: ∀j,W'.cell? ⟨g,j,none⟩=W.cell? ⟨g,j,none⟩:=fun j=>World.cell?_of_block (hb.block g h2 hne)
  exact⟨(e _).trans x1,(e _).trans x2⟩
theorem qeK (f:Tf) (ls:List Lb) (x:Lb):qcl f (ls++[x])=qhI (qcl f ls) x:=by unfold qcl;rw[List.foldl_append];rfl
theorem qjc (ls:List Lb) (i:Nat) (h:i<ls.length):ls.take (i+1)=ls.take i++[ls.getD i lb0]:=by
 rw[List.take_succ_eq_append_getElem h];simp[List.getD_eq_getElem?_getD,List.getElem?_eq_getElem h]
def qsU (b n:Nat) (f:Tf) (w:World) (e:Ending) (w':World):Prop:=e= .returned (.tuple #[])∧(∃D',w'.ownsMap Tryz.prog 9 qfJ b n D'∧qg4 D' f)∧Only b w w'
theorem qjK (b n:Nat) (D:DataW Unit) (f:Tf) (v:Value) (ls:List Lb) (hl:ls.length≤1000000) (hn:n≤1000000) (hb: ∀x∈ls,x.1.length≤1000000000) (w:World) (hm:w.ownsMap Tryz.prog 9 qfJ b n D) (hD:qg4 D f) (hr:qaN w v ls):
 Calls Tryz.prog 51 #[.map (some b),v] w (qsU b (n+ls.length) (qcl f ls) w):=by
 obtain⟨a,c,rfl⟩:=hr.shape;have hrh:=Lh hr;have hbh:=Lh hb;have hmh:=Lh hm;have hDh:=Lh hD;clear hr hb hm hD;obtain⟨m,hm⟩: ∃m,m=ls.length:=⟨_,rfl⟩;have hlh:=Lh hm;rw[←hm] at hl⊢;clear hm;go_enter Tryz.func51,Tryz.ntmps51;go_wp2_with fail;go_loopg [8] (m+1) (fun gk s8 wx=> ∃(i:Nat) (Di:DataW Unit),i≤m∧m - i<gk∧s8= .int .i64 (i:Int)∧Hid (wx.ownsMap Tryz.prog 9 qfJ b (n+i) Di)∧Hid (qg4 Di (qcl f (ls.take i)))∧Hid (qaN wx (.slice a ls.length c) ls)∧Hid (Only b w wx))
 case atStart=>exact⟨0,D,by omega,by omega,rfl,hmh,Lh (by rw[List.take_zero];exact hDh.out),hrh,Lh (Only.refl _ _)⟩
 case round=>
  clear hmh hDh hrh;obtain⟨i,Di,hi,hgk,rfl,hM,hT,hR,hO⟩:=hrel
  by_cases hlt:i<m
  ·have u2:decide ((i:Int)<(m:Int))=true:=dT (by omega);have u3:decide (i<m)=true:=dT hlt;have hil:i<ls.length:=by rw[←hlh.out];exact hlt
   obtain⟨g,off,rfl,hbl,x1,x2⟩:=hR.out.at' i hil;have hxb:(ls.getD i lb0).1.length≤1000000000:=hbh.out _ (by rw[List.getD_eq_getElem?_getD,List.getElem?_eq_getElem hil];exact List.getElem_mem _);have hts:=qjc ls i hil;obtain⟨x,hx⟩: ∃x,ls.getD i lb0=x:=⟨_,rfl⟩;rw[hx] at x1 x2 hts hxb;have hk:=qrK x.1 (by unfold maxLen;omega);have hB:=Lh ((Below.refl wr.heap.size wr).alloc (Nat.le_refl _) (.cells #[.string (BS x.1),.string (BS x.2)] 44));have hM2:=Lh (hM.out.alloc (.cells #[.string (BS x.1),.string (BS x.2)] 44));have hR2:=Lh (hR.out.on hB.out);have hO2:=Lh (hO.out.trans (Only.of hB.out));have hem2:(BS x.2).toList.isEmpty=emp x:=by rw[qad];rfl
   have htsh:=Lh hts;clear hx hts hB
   cases he:emp x with
   |true=>
    have hT2:Hid (qg4 (Di.del (.string x.1)) (qcl f (ls.take (i+1)))):=Lh (by rw[htsh.out,qeK];exact hT.out.del x he);rw[he] at hem2;clear he;go_wp2_with (at_delete;refine wpList_delete_own _ rfl _ _ 102 9 rfl 44 qsz qs4 qfJ b (n+i) Di rfl hM2.out _ _ rfl hk ?_;intro w3 hown3 hturn3);have O3:=qeP hturn3.grown;have hM3:=Lh (hown3.mono (show n+i≤n+(i+1) by omega));have hR3:=Lh (hR2.out.onMap hM2.out O3);have hO3:=Lh (hO2.out.trans O3);go_roundg (gk - 1)
    case measure=>omega
    case rel=>exact⟨i+1,_,by omega,by omega,by go_num,hM3,hT2,hR3,hO3⟩
   |false=>
    have hT2:Hid (qg4 (Di.put (.string x.1) (qlu x)) (qcl f (ls.take (i+1)))):=Lh (by rw[htsh.out,qeK];exact hT.out.put x he);rw[he] at hem2;clear he;go_wp2_with (at_mapUpdate;refine wpList_mapUpdate_own _ rfl _ _ _ 102 rfl 9 44 qsz qs4 qfJ b (n+i) Di rfl hM2.out (by unfold maxLen;omega) _ _ _ rfl rfl hk (qlu x) [] (qkT x) ?_;intro w3 hown3 hgrow3);have O3:=qeP hgrow3;have hM3:=Lh (show w3.ownsMap Tryz.prog 9 qfJ b (n+(i+1)) _ from hown3);have hR3:=Lh (hR2.out.onMap hM2.out O3);have hO3:=Lh (hO2.out.trans O3);go_roundg (gk - 1)
    case measure=>omega
    case rel=>exact⟨i+1,_,by omega,by omega,by go_num,hM3,hT2,hR3,hO3⟩
  ·obtain rfl:i=m:=by omega
   have u2:decide ((i:Int)<(i:Int))=false:=dF (by omega);have hT2:Hid (qg4 Di (qcl f ls)):=Lh (by have:=hT.out;rw[hlh.out,List.take_length] at this;exact this);go_wp2_with fail;go_end0;exact⟨rfl,⟨Di,hM.out,hT2.out⟩,hO.out⟩
end Go.Proofs.YtdeimnnpcfncpaaGreatDoor.X
end
section
namespace Go.Proofs.YtdeimnnpcfncpaaGreatDoor.X
open Go Go.RowKit Go.Shelf Go.Lib Go.Sort Go.Maps
theorem qiH (blk off cap:Nat) (d:Array Lb) (w:World) (eg: ∀args w,(callFunc 102 args).run Tryz.prog w= .ok (.enter 102 args) w) (hcmp:CmpLays Tryz.prog 102 #[] qaX 2 qjx blk off d.size w) (hH:HoldsK qaX 2 w blk off d) (hblk:blk<w.heap.size) (hsz:d.size<4611686018427387904):
 Calls Tryz.prog 110 #[.slice (some ⟨blk,off,none⟩) d.size cap,.func (.func 102) #[] #[]] w fun e w'=>
  e= .returned (.tuple #[])∧ ∃n os,w'=sortWorldK qaX 2 w blk off n (pdq (ltOf qjx) d 0 d.size (Lib.bitLen d.size) true true) os:=by
 have hlim:Lib.bitLen d.size<4611686018427387904:=Nat.lt_of_le_of_lt (Lib.bitLen_le d.size 62 (by omega) (by omega)) (by omega);have hp:=AnyQ.pdqsortCmpFunc_all (P:=Tryz.prog) (ρ:=Tryz.sortLb_ren) {Tryz.sortLb with} 2 Tryz.isAgg44 Tryz.sizeOf44 qaX qjx 102 #[] qtk blk off cap d w eg hcmp ⟨fun _=>rfl,fun x v hv=>by simp[qaX] at hv;rcases hv with rfl|rfl<;>rfl,hH,hblk⟩ (d.size+1) 0 d.size (Lib.bitLen d.size) d w (by omega) rfl (SWK.start hH) (Nat.zero_le _) (Nat.le_refl _) hsz hlim (Or.inl rfl);replace hp:=Lh (show Calls Tryz.prog 165 _ w _ from hp)
 have hl:Calls Tryz.prog 166 #[.int .u64 (d.size:Int)] w fun e w'=>e= .returned (.int .i64 (Lib.bitLen d.size:Nat))∧w'=w:=by
  have h:=Any.bits_Len (SlLaysF0.n15.bits (P:=Tryz.prog) (ρ:=Tryz.sortLb_ren) {Tryz.sortLb with}) (d.size:Int) w (by omega) (by omega);rwa[Int.toNat_natCast] at h
 have wr:IntKind.u64.wrap (d.size:Int)=d.size:=by simp[IntKind.wrap,IntKind.bits,IntKind.signed];omega
 clear hH hcmp;go_enter Tryz.func110,Tryz.ntmps110;go_wp2_with fail;refine hl.mono ?_;rintro e w' ⟨rfl,rfl⟩;go_wp2_with fail;refine hp.out.mono ?_;rintro e w' ⟨rfl,n,os,rfl⟩;go_wp2_with fail;go_end0;exact⟨rfl,n,os,rfl⟩
theorem qqq (blk off cap:Nat) (d:Array Lb) (w:World) (eg: ∀args w,(callFunc 102 args).run Tryz.prog w= .ok (.enter 102 args) w) (hcmp:CmpLays Tryz.prog 102 #[] qaX 2 qjx blk off d.size w) (hH:HoldsK qaX 2 w blk off d) (hblk:blk<w.heap.size) (hsz:d.size<4611686018427387904):
 Calls Tryz.prog 110 #[.slice (some ⟨blk,off,none⟩) d.size cap,.func (.func 102) #[] #[]] w fun e w'=>
  e= .returned (.tuple #[])∧ ∃d' n os,PermIn 0 d.size d d'∧SortedIn (ltOf qjx) 0 d.size d'∧w'=sortWorldK qaX 2 w blk off n d' os:=
 (qiH blk off cap d w eg hcmp hH hblk hsz).mono fun _ _ ⟨he,n,os,hw⟩=>
   have h:=pdq_sorts (ltOf qjx) qtk d 0 d.size (Lib.bitLen d.size) true true (Nat.zero_le _) (Nat.le_refl _) (Or.inl rfl)
   ⟨he,_,n,os,h.1,h.2,hw⟩
theorem qig (w:World):Calls Tryz.prog 110 #[.slice none 0 0,.func (.func 102) #[] #[]] w fun e w'=>e= .returned (.tuple #[])∧w'=w:=by
 have hp: ∀(lim:Int) W,Calls Tryz.prog 165 #[.slice none 0 0,.int .i64 0,.int .i64 0,.int .i64 lim,.func (.func 102) #[] #[]] W fun e w'=>e= .returned (.tuple #[])∧w'=W:=fun lim W=>
  AnyF.pdqsortCmpFunc_none (P:=Tryz.prog) (ρ:=Tryz.sortLb_ren) {Tryz.sortLb with} none 0 lim (.func (.func 102) #[] #[]) W
 have hl: ∀W,Calls Tryz.prog 166 #[.int .u64 0] W fun e w'=>e= .returned (.int .i64 (Lib.bitLen 0:Nat))∧w'=W:=fun W=>
  Any.bits_Len (SlLaysF0.n15.bits (P:=Tryz.prog) (ρ:=Tryz.sortLb_ren) {Tryz.sortLb with}) 0 W (by omega) (by omega)
 replace hp:=Lh hp;go_enter Tryz.func110,Tryz.ntmps110;go_wp2_with fail;refine(hl _).mono ?_;rintro e w' ⟨rfl,rfl⟩;go_wp2_with fail;refine(hp.out _ _).mono ?_;rintro e w' ⟨rfl,rfl⟩;go_wp2_with fail;go_end0;exact⟨rfl,rfl⟩
theorem qlT (v:Value) (ls:List Lb) (base:Nat) (w:World) (h:w.ownsRow base 44 2 v ls.length (qaa ls)) (hb:base≤w.heap.size) (hl:ls.length≤1000000):
 Calls Tryz.prog 110 #[v,.func (.func 102) #[] #[]] w fun e w'=>e= .returned (.tuple #[])∧ ∃ls':List Lb,ls'.Perm ls∧qsw ls'∧w'.ownsRow base 44 2 v ls'.length (qaa ls')∧Below base w w':=by
 rcases h.2 with ⟨rfl,h0⟩|⟨g,cap,cur,rfl,hbg,h3,h4,h5,h6,h7⟩
 ·have h0':=List.eq_nil_of_length_eq_zero h0;refine(qig w).mono ?_;rintro e w' ⟨rfl,rfl⟩;have:ls=[]:=h0';subst this;exact⟨rfl,[],.refl _,fun i j _ hj=>absurd hj (Nat.not_lt_zero _),h,Go.RowKit.Below.refl _ _⟩
 ·have hg:=(Array.getElem?_eq_some_iff.1 h3).1;have eg: ∀args w,(callFunc 102 args).run Tryz.prog w= .ok (.enter 102 args) w:=enters_of Tryz.func102 (by kernel_rfl) rfl
  have hH:HoldsK qaX 2 w g 0 ls.toArray:=by
   unfold HoldsK;rw[qjT];intro j hj;have hj2:j<(qaa ls).length:=by simpa using hj
   rw[Nat.zero_add];refine⟨?_,Lib.frozen_of_heap h3 j⟩;rw[Lib.cell_of_heap h3];have:(cur.toList.take (ls.length*2))[j]?=(qaa ls)[j]?:=by rw[h7]
   rw[List.getElem?_take_of_lt (by rw[←qaw];exact hj2)] at this;rw[←Array.getElem?_toList,this,List.getElem?_eq_getElem hj2,getElem!_pos _ j hj];simp
  have hc':=qqq g 0 cap ls.toArray w eg (qeL g 0 ls.toArray.size w) hH hg (by simp;omega);have hsz:ls.toArray.size=ls.length:=by simp
  rw[hsz] at hc';refine hc'.mono ?_;rintro e w' ⟨rfl,d',n,os,hp,hs,rfl⟩;obtain⟨p1,_,p3⟩:=hp;have hd:d'.toList.length=ls.length:=by simpa using p1
  refine⟨rfl,d'.toList,?_,?_,?_⟩
  ·have p4:(d'.extract 0 ls.length).toList.Perm (ls.toArray.extract 0 ls.length).toList:=p3;simp only[Array.toList_extract,List.extract_eq_take_drop,Nat.sub_zero,List.drop_zero] at p4;rw[List.take_of_length_le (by omega),List.take_of_length_le (by simp)] at p4;exact p4
  ·intro i j hij hj hlt;have:=hs i j (Nat.zero_le _) hij (by simpa [hd] using hj);rw[ltN] at this;have h2:=of_decide_eq_false this;apply h2
   have e: ∀k,k<d'.toList.length→d'[k]! =d'.toList.getD k lb0:=fun k hk=>by
    rw[getElem!_pos d' k (by simpa using hk),List.getD_eq_getElem?_getD,List.getElem?_eq_getElem hk];simp
   rw[e j hj,e i (by omega)];exact hlt
  ·have:=qed (w:=w) (base:=base) (ls:=ls) (ls':=d'.toList) n os hbg h3 h4 h5 h6 hd hb;exact this
def qqG (f:Tf) (left:Lit→Bool) (ss:List Lb):Prop:=qaC ss=false∧ ∀x:Lb,x∈ss↔(f x.1=some x.2∧left (.string x.1)=false)
theorem qqG.step {f:Tf} {left:Lit→Bool} {ss:List Lb} (h:qqG f left ss) {x:Lb} (hf:f x.1=some x.2) (hl:left (.string x.1)=true):qqG f (fun z=>left z&&!z.sameKey (.string x.1)) (ss++[x]):=by
 obtain⟨h1,h2⟩:=h
 have hno:qb2 ss x.1=false:=by
  rw[←Bool.not_eq_true,qcA];rintro⟨y,hy,e⟩;have:=((h2 y).1 hy).2;rw[e,hl] at this;cases this
 refine⟨by rw[qbq (List.perm_append_singleton x ss),qaC,hno,h1];rfl,fun y=>?_⟩;rw[List.mem_append,List.mem_singleton,h2]
 by_cases hy:y.1=x.1
 ·have hs:(Lit.string y.1).sameKey (.string x.1)=true:=by rw[hy];exact WideAt.sameKey_self (qi9 _)
  simp only[hs,Bool.not_true,Bool.and_false];constructor
  ·rintro(⟨a,b⟩|rfl)
   ·rw[hy,hl] at b;cases b
   ·exact⟨hf,trivial⟩
  ·rintro⟨a,_⟩;right;rw[hy,hf] at a;exact Prod.ext hy (Option.some.inj a).symm
 ·have hs:(Lit.string y.1).sameKey (.string x.1)=false:=sameKey_ne (qgg hy);simp only[hs,Bool.not_false,Bool.and_true];constructor
  ·rintro(h|rfl)
   ·exact h
   ·exact absurd rfl hy
  ·exact fun h=> .inl h
theorem qpy {kl:Lit} {l:List UInt8} (h:keyOf Tryz.prog 9 (.string (BS l))=some kl):kl= .string l:=by
 obtain⟨x,hx,rfl,_⟩:=Maps.keyOf_str u9s h;have:BS l=⟨x.toArray⟩:=by simpa [encStr] using hx
 have e:(BS l).data.toList=x:=by rw[this]
 rw[show(BS l).data.toList=l by simp[BS]] at e;rw[e]
def qrC (f:Tf) (n:Nat) (b:Nat) (w:World) (e:Ending) (w':World):Prop:=
 ∃(v:Value) (r:List Lb),e= .returned v∧w'.ownsRow w.heap.size 44 2 v r.length (qaa r)∧Below w.heap.size w w'∧Inc r∧(∀x:Lb,x∈r↔f x.1=some x.2)∧r.length≤n
theorem qka {D:DataW Unit} {f:Tf} (hD:qg4 D f):qqG f (has D) []:=⟨rfl,fun x=>by
 rw[hD.2.1];constructor
 ·intro h;cases h
 ·rintro⟨h1,h2⟩
  rw[h1] at h2;cases h2⟩
theorem qiT (b n:Nat) (hn:n≤100000) (D:DataW Unit) (f:Tf) (w:World) (hm:w.ownsMap Tryz.prog 9 qfJ b n D) (hD:qg4 D f):Calls Tryz.prog 53 #[.map (some b)] w (qrC f n b w):=by
 have hbl:=hm.lt;have hsz:=hm.size_le;have hDh:=Lh hD;have hmh:=Lh hm;clear hD;go_enter Tryz.func53,Tryz.ntmps53;go_wp2_with (at_range;refine wpList_range_own _ rfl _ 102 rfl 9 44 qsz qs4 qfJ b n D rfl hmh.out ?_;intro w0 hrg0 hg0 hs0);go_frame;have hr0:Hid (Below w.heap.size w w0):=Lh ((Below.refl _ _).grown hg0 (Nat.le_refl _) (fun j hj=>by cases hj));have hc0:=Lh (qka hDh.out);have hrg0h:=Lh hrg0;clear hg0 hm hrg0 hmh
 go_loopw [3] (fun s3 wr=> ∃(left:Lit→Bool) (cnt:Nat) (ss:List Lb),wr.ranges Tryz.prog 9 qfJ b w.heap.size n D left cnt∧ss.length+cnt≤Maps.size D∧Hid (wr.ownsRow w.heap.size 44 2 s3 ss.length (qaa ss))∧Hid (qqG f left ss)∧Hid (Below w.heap.size w wr))
  (fun _ wr=>wr.rangeLeft b w.heap.size)
 case atStart=>exact⟨_,_,[],hrg0h.out,by simp,Lh ⟨rfl,.inl ⟨rfl,rfl⟩⟩,hc0,hr0⟩
 case round=>
  clear hrg0h hc0 hr0;obtain⟨left,cnt,ss,hrg,hcs,hrow,hC,hB⟩:=hrel;obtain⟨a3,c3,rfl⟩:=qae hrow.out;have hrgh:=Lh hrg;clear hrg;go_wp2_with (at_next;refine wpList_next_ranges _ rfl _ rfl 9 qsz qfJ (fun l:List UInt8=>Value.string (BS l)) (fun x:Lb=>Value.agg #[.string (BS x.1),.string (BS x.2)]) (fun key kl hk=>by obtain⟨x,hx,_⟩:=Maps.keyOf_str u9s hk;exact⟨x,hx⟩) (fun v y hv=>by obtain⟨x,hx,_⟩:=qlR hv;exact⟨x,hx⟩) b w.heap.size n _ _ _ rfl hrgh.out ?_ ?_)
  ·intro hc0 hl0;have cs:=Lh (qlT _ ss w.heap.size wr hrow.out hB.out.size (by omega));go_wp2_with fail;refine cs.out.mono ?_;rintro e w3 ⟨rfl,qs,hp,hs,own3,B3⟩;have hfin:Hid (∃v r,(∃c,True)∧True∧True):=Lh ⟨0,0,⟨0,trivial⟩,trivial,trivial⟩;have htw:=hC.out.1;obtain⟨k1,k2⟩:=qfG hp hs;have hql:qs.length=ss.length:=hp.length_eq;have hinc:Inc qs:=by rw[k2 (by rw[k1,htw])];exact qfy ss htw
   have hmem: ∀x:Lb,x∈qs↔f x.1=some x.2:=fun x=>by
    rw[hp.mem_iff,hC.out.2 x];exact⟨fun h=>h.1,fun h=>⟨h,hl0 _⟩⟩
   have hR:=Lh (show qrC f n b w (.returned (.slice a3 ss.length c3)) w3 from⟨_,qs,rfl,own3,hB.out.trans B3,hinc,hmem,by omega⟩);clear own3 B3 hp hs k1 k2 hinc hmem hfin cs;go_wp2_with fail;go_ret;exact hR.out
  ·intro x c1 c2 kl yd yp w2 cnt2 hkey hlk hv hat hrg2 hlt hg2 hs2 hen;obtain rfl:=qpy hkey
   have hyd:yd=qlu (c1,c2):=by
    rw[show qfJ (.agg #[.string (BS c1),.string (BS c2)])=some (qlu (c1,c2),[])from qkT (c1,c2)] at hv;exact((Prod.mk.inj (Option.some.inj hv)).1).symm
   have hhas:has D (.string x)=true:=has_true_of_atKey (y:=yd) hat
   have hfx:f c1=some c2∧c1=x:=by
    rw[hDh.out.2.1] at hhas;obtain⟨v,hv2⟩:=Option.isSome_iff_exists.1 hhas;have h1:=hat (.map []);rw[hDh.out.2.2 x v hv2,hyd] at h1;unfold qlu at h1;simp at h1;obtain⟨e1,e2⟩:=h1;rw[←e1,←e2];exact⟨hv2,rfl⟩
   obtain⟨hf1,rfl⟩:=hfx;have hC2:Hid (qqG f (fun z=>left z&&!z.sameKey (.string c1)) (ss++[(c1,c2)])):=Lh (hC.out.step (x:=(c1,c2)) hf1 hlk);have hrow2:=hrow.out.kept hg2 (Or.inr (row_ne_iter hrow.out hrgh.out).symm);have hB2:=Lh (hB.out.grown hg2 hB.out.size (fun j hj=>by cases hj;exact Nat.le_refl _));have hsz2:w.heap.size≤w2.heap.size:=hB2.out.size;have hrow3:Hid ((w2.alloc (.cells #[.string (BS c1),.string (BS c2)] 44)).ownsRow w.heap.size 44 2 _ ss.length (qaa ss)):=Lh (hrow2.alloc _);have hrg3:=Lh (hrg2.alloc (.cells #[.string (BS c1),.string (BS c2)] 44));have hB3:=Lh (hB2.out.alloc hsz2 (.cells #[.string (BS c1),.string (BS c2)] 44));have hs3:w.heap.size≤(w2.alloc (.cells #[.string (BS c1),.string (BS c2)] 44)).heap.size:=by simp;omega
   have N3:LB 44 w2.heap.size c1 c2 (w2.alloc (.cells #[.string (BS c1),.string (BS c2)] 44)):=World.alloc_heap_new _ _;have d0:=N3.c0;have d1:=N3.c1;have hrg2h:=Lh hrg2;have hlth:=Lh hlt;clear hs2 hrg2 hv hat hhas hkey hlk hrow2 N3 hyd hlt hf1;go_upto_region 5 with (fail)
   generalize w2.alloc (.cells #[.string (BS c1),.string (BS c2)] 44)=w4 at hrow3 hrg3 hB3 hs3 d0 d1⊢;go_wp2_with (at_builtin;go_must (refine qgm rfl (.tmp 12) (.tmp 14) 32 rfl 2 #[.string (BS c1),.string (BS c2)] rfl (by decide) w.heap.size (.agg #[.string ⟨#[]⟩,.string ⟨#[]⟩]) 32 (by kernel_rfl) qcJ rfl (.slice a3 ss.length c3) ss.length (qaa ss) rfl rfl hrow3.out (by intro u hu;simp at hu;rcases hu with rfl|rfl<;>rfl) (by decide) (by omega) hs3 ?_);rintro v5 w5 hown5 hb5 hs5 hk5 _);have hg5:w4.grownBy w5 _:=⟨hb5.os,hb5.tape,hb5.output,hs5,fun k hk hne=>hk5 k (fun e=>hne e.symm) hk⟩;have hrg5:=hrg3.out.kept hg5 (row_ne_low hrow3.out hbl) (row_ne_iter hrow3.out hrg3.out);go_roundw
   case rel=>
    refine⟨_,cnt2,ss++[(c1,c2)],hrg5,by have:=hlth.out;simp;omega,Lh ?_,hC2,Lh (hB3.out.trans hb5)⟩;rw[List.length_append,show qaa (ss++[(c1,c2)])=qaa ss++qaX (c1,c2) by simp[qaa]];exact hown5
   case measure=>rw[hrg5.left_eq,hrgh.out.left_eq];exact hlth.out
end Go.Proofs.YtdeimnnpcfncpaaGreatDoor.X
end
section
namespace Go.Proofs.YtdeimnnpcfncpaaGreatDoor.X
open Go Go.RowKit Go.Maps
def qkD (ls eds:List Lb) (w:World) (e:Ending) (w':World):Prop:=
 ∃(v:Value) (r:List Lb),e= .returned (.tuple #[v,.int .i64 0])∧w'.ownsRow w.heap.size 44 2 v r.length (qaa r)∧Below w.heap.size w w'∧qsv ls eds r
theorem qrd (v ve:Value) (ls eds:List Lb) (hr:qaF ls=true) (he: ∀x∈eds,qb0 x=0) (hn:ls.length+eds.length≤64) (hb1: ∀x∈ls,x.1.length≤1000000000∧x.2.length≤1000000000) (hb2: ∀x∈eds,x.1.length≤1000000000∧x.2.length≤1000000000)
 (w:World) (h1:qaN w v ls) (h2:qaN w ve eds):Calls Tryz.prog 17 #[v,ve] w (qkD ls eds w):=by
 have cR:=qcS v ls (by omega) hb1 w h1;rw[hr] at cR;replace cR:=Lh cR;obtain⟨a1,c1,rfl⟩:=h1.shape;obtain⟨a2,c2,rfl⟩:=h2.shape;have h1h:=Lh h1;have h2h:=Lh h2;have heh:=Lh he;have hb1h:=Lh hb1;have hb2h:=Lh hb2;have hnh:=Lh hn;clear h1 h2 he hb1 hb2 hr;obtain⟨m1,hm1⟩: ∃m,m=ls.length:=⟨_,rfl⟩;obtain⟨m,hm⟩: ∃m,m=eds.length:=⟨_,rfl⟩;have hm1h:=Lh hm1;have hmh:=Lh hm;rw[←hm,←hm1] at hn;rw[←hm1] at cR;rw[←hm,←hm1];clear hm hm1;have hmm:=@run_makeMap Tryz.prog;go_enter Tryz.func17,Tryz.ntmps17;go_wp2_with fail;refine cR.out.mono ?_;rintro e w1 ⟨rfl,B1⟩;replace B1:=Lh B1;clear cR;go_wp2_with fail;go_loopg [15] (m+1) (fun gk s15 wx=> ∃i:Nat,i≤m∧m - i<gk∧s15= .int .i64 (i:Int)∧Hid (Below w.heap.size w wx))
 case atStart=>exact⟨0,by omega,by omega,rfl,B1⟩
 case round=>
  clear B1;obtain⟨i,hi,hgk,rfl,B⟩:=hrel
  by_cases hlt:i<m
  ·have u2:decide ((i:Int)<(m:Int))=true:=dT (by omega);have u3:decide (i<m)=true:=dT hlt;have hil:i<eds.length:=by rw[←hmh.out];exact hlt
   obtain⟨b,off,rfl,hbl,x1,x2⟩:=(h2h.out.on B.out).at' i hil;have hmem:eds.getD i lb0∈eds:=by rw[List.getD_eq_getElem?_getD,List.getElem?_eq_getElem hil];exact List.getElem_mem _
   have hxb:=hb2h.out _ hmem;have hx0:=heh.out _ hmem;obtain⟨x,hx⟩: ∃x,Hid (x=eds.getD i lb0):=⟨_,Lh rfl⟩;rw[←hx.out] at x1 x2 hxb hx0;have co:=fun W=>qgP x (by omega) (by omega) W
   rw[hx0] at co;replace co:=Lh co;have hBB: ∀ob,Hid (Below w.heap.size w (wr.alloc ob)):=fun ob=>Lh (B.out.alloc B.out.size ob)
   clear hmem hx0 hxb hmm;go_wp2_with fail;refine(co.out _).mono ?_;rintro e w2 ⟨rfl,hb1⟩;have B2:=Lh ((hBB _).out.trans (hb1.mono (hBB _).out.size));clear hb1 co x1 x2 hBB;go_wp2_with fail;go_roundg (gk - 1)
   case measure=>omega
   case rel=>exact⟨i+1,by omega,by omega,by go_num,B2⟩
  ·obtain rfl:i=m:=by omega
   have u2:decide ((i:Int)<(i:Int))=false:=dF (by omega);have M0:=Lh (World.ownsMap_made wr Tryz.prog 9 qfJ);have Ba:Below wr.heap.size wr (wr.alloc (.map #[] 0)):=(Below.refl _ _).alloc (Nat.le_refl _) _;have B0:=Lh (B.out.trans (Ba.mono B.out.size));have r1:=Lh ((h1h.out.on B.out).on Ba);have r2:=Lh ((h2h.out.on B.out).on Ba);have hwb:w.heap.size≤wr.heap.size:=B.out.size;clear Ba B h1h h2h;go_upto_region 11 with (fail)
   clear hmm;generalize wr.alloc (.map #[] 0)=w3 at M0 B0 r1 r2⊢;generalize wr.heap.size=b at M0 hwb⊢;have c1':=Lh (qjK b 0 (.map []) tf0 _ ls (by have:=hnh.out;omega) (by omega) (fun x hx=>(hb1h.out x hx).1) w3 M0.out qsK r1.out);rw[←hm1h.out] at c1';go_wp2_with fail;refine c1'.out.mono ?_;rintro e w4 ⟨rfl,⟨D4,M4,T4⟩,O4⟩;have r4:=Lh (r2.out.onMap M0.out O4);have B4:=Lh (B0.out.trans (O4.below hwb B0.out.size));have M4h:=Lh M4;have c2':=Lh (qjK b (0+m1) D4 _ _ eds (by have:=hnh.out;omega) (by omega) (fun x hx=>(hb2h.out x hx).1) w4 M4 T4 r4.out);rw[←hmh.out] at c2';clear M4 T4 O4 c1' M0 B0 r1 r2;go_wp2_with fail;refine c2'.out.mono ?_;rintro e w5 ⟨rfl,⟨D5,M5,T5⟩,O5⟩;have B5:=Lh (B4.out.trans (O5.below hwb B4.out.size));have c3:=Lh (qiT b (0+m1+i) (by omega) D5 _ w5 M5 T5);clear M5 T5 O5 c2' B4 r4 M4h;go_wp2_with fail;refine c3.out.mono ?_;rintro e w6 ⟨v6,r,rfl,own6,B6,hinc,hmem,hrl⟩;have hbnd:=qhp v6 r (by omega) w6 (by obtain⟨a,c,h⟩:=qae own6;exact⟨a,c,h⟩);rw[if_neg (by omega),if_neg (by omega)] at hbnd;replace hbnd:=Lh hbnd;have hR:=Lh (show qkD ls eds w (.returned (.tuple #[v6,.int .i64 0])) w6 from⟨v6,r,rfl,qaQ own6 B5.out.size,B5.out.trans (B6.mono B5.out.size),hinc,hmem,by have:=hm1h.out;have:=hmh.out;omega⟩);obtain⟨a6,c6,rfl⟩:=qae own6;clear own6 B6 hinc hmem c3;go_wp2_with fail;refine hbnd.out.mono ?_;rintro e w7 ⟨rfl,rfl⟩;go_wp2_with fail;go_ret2;exact hR.out
end Go.Proofs.YtdeimnnpcfncpaaGreatDoor.X
end
section
namespace Go.Proofs.YtdeimnnpcfncpaaGreatDoor.X
open Go Go.RowKit
def qok (base:Nat) (W:World) (v:Value) (l:List Lb):Prop:=
 base≤W.heap.size∧(W.ownsRow base 44 2 v l.length (qaa l)∨ ∃b o,v= .slice (some ⟨b,o,none⟩) l.length l.length∧b<W.heap.size∧ ∀j u,(qaa l)[j]?=some u→W.cell? ⟨b,o+j,none⟩=some u)
theorem qok.on {base:Nat} {W W':World} {v:Value} {l:List Lb} (h:qok base W v l) (hb:Below W.heap.size W W'):qok base W' v l:=by
 refine⟨Nat.le_trans h.1 hb.size,?_⟩;rcases h.2 with h|⟨b,o,h1,h2,h3⟩
 ·exact .inl (qah h hb)
 ·exact .inr ⟨b,o,h1,Nat.lt_of_lt_of_le h2 hb.size,fun j u hj=>(hb.cell (p:=⟨b,o+j,none⟩) h2).trans (h3 j u hj)⟩
theorem qfY {W:World} {base b o c:Nat} {ls:List Lb} (h:W.ownsRow base 44 2 (.slice (some ⟨b,o,none⟩) ls.length c) ls.length (qaa ls)):
 b<W.heap.size∧ls.length≤c∧c≤maxLen∧ ∀j u,(qaa ls)[j]?=some u→W.cell? ⟨b,o+j,none⟩=some u:=by
 rcases h.2 with ⟨h1,h2⟩|⟨g,cap,cur,h1,h2,h3,h4,h5,h6,h7⟩
 ·cases h1
 ·cases h1;refine⟨(Array.getElem?_eq_some_iff.1 h3).1,h4,h5,fun j u hj=>?_⟩;have hjl:j<ls.length*2:=by have:=(List.getElem?_eq_some_iff.1 hj).1;rw[qaw] at this;exact this
  rw[Nat.zero_add,Lib.cell_of_heap h3,←hj,←h7,List.getElem?_take_of_lt hjl];simp
theorem qjZ (ls:List Lb) (j:Nat) (hj:j≤ls.length): ∀(i:Nat) (u:Value),(qaa (ls.take j))[i]?=some u→(qaa ls)[i]?=some u:=by
 intro i u h;have e:qaa ls=qaa (ls.take j)++qaa (ls.drop j):=by unfold qaa;rw[←List.flatMap_append,List.take_append_drop]
 rw[e,List.getElem?_append_left (List.getElem?_eq_some_iff.1 h).1];exact h
theorem qgR (ls:List Lb) (j:Nat) (hj:j≤ls.length): ∀(i:Nat) (u:Value),(qaa (ls.drop j))[i]?=some u→(qaa ls)[j*2+i]?=some u:=by
 intro i u h;have e:qaa ls=qaa (ls.take j)++qaa (ls.drop j):=by unfold qaa;rw[←List.flatMap_append,List.take_append_drop]
 have hl:(qaa (ls.take j)).length=j*2:=by rw[qaw,List.length_take];omega
 rw[e,List.getElem?_append_right (by omega),hl,show j*2+i - j*2=i by omega];exact h
theorem qpU {W:World} {base b o c:Nat} {ls:List Lb} (hbs:base≤W.heap.size) (own:W.ownsRow base 44 2 (.slice (some ⟨b,o,none⟩) ls.length c) ls.length (qaa ls)) (j:Nat) (hj:j<ls.length) (hl:ls.length≤1000) (a2:Option Addr) (n2 c2:Nat) (h2:Value.slice a2 n2 c2=sliced (some ⟨b,o,none⟩) (j+1) ls.length c 2):
 ∃v' w',(Builtin.append_ #[31,31] 31 #[.slice (some ⟨b,o,none⟩) j j,.slice a2 n2 c2]).run Tryz.prog W= .ok v' w'∧qok base w' v' (ls.eraseIdx j)∧Below W.heap.size W w':=by
 obtain⟨hb,hc,hcm,hcl⟩:=qfY own;obtain⟨i,hi,hz0,hz1,hz2⟩:=info_parts qcJ;have he:ls.eraseIdx j=ls.take j++ls.drop (j+1):=List.eraseIdx_eq_take_drop_succ ..;have hel:(ls.eraseIdx j).length=ls.length - 1:=by rw[List.length_eraseIdx];simp[hj]
 have hlt:(ls.take j).length=j:=by rw[List.length_take];omega
 have hht: ∀(i:Nat) (u:Value),(qaa (ls.take j))[i]?=some u→W.cell? ⟨b,o+i,none⟩=some u:=fun i u h=>hcl i u (qjZ ls j (by omega) i u h)
 unfold sliced at h2;injection h2 with e1 e2 e3
 by_cases hlast:j+1=ls.length
 ·have hd:ls.drop (j+1)=[]:=List.drop_of_length_le (by omega);have h2n: ∃ad,a2=some ad:=by rw[e1];split<;>exact⟨_,rfl⟩
  obtain⟨ad,had⟩:=h2n;have hn2:n2=0:=by omega
  subst had hn2
  have hrun:(Builtin.append_ #[31,31] 31 #[.slice (some ⟨b,o,none⟩) j j,.slice (some ad) 0 c2]).run Tryz.prog W= .ok (.slice (some ⟨b,o,none⟩) (j+0) j) W:=
   run_append_room_cells (P:=Tryz.prog) W 31 31 44 i (by kernel_rfl) hi b o j j ad 0 c2 [] (by simp) (by simp) (by simp) (by omega) (by simp) (by simp)
  refine⟨_,_,hrun,⟨hbs,.inr ⟨b,o,?_,hb,?_⟩⟩,Below.refl _ _⟩
  ·have hj1:ls.length - 1=j:=by omega
   rw[hel,hj1];rfl
  ·rw[he,hd,List.append_nil];exact hht
 ·have hcne: ¬c=j+1:=by omega
  rw[if_neg hcne] at e1;simp only[Option.map_some] at e1;subst e1;have hn2:n2=ls.length - (j+1):=by omega
  obtain⟨v',w',hrun,r1,r2⟩:=run_append_arg_grows (P:=Tryz.prog) W 31 31 44 i _ 2 32 (by kernel_rfl) hi hz0 hz1 hz2 rfl (by decide) ⟨b,o,none⟩ j j (qaa (ls.take j)) (by rw[qaw,hlt]) (fun k u h=>by rw[Addr.add_lit];exact hht k u h)
   ((⟨b,o,none⟩:Addr).add ((j+1)*2)) n2 c2 (qaa (ls.drop (j+1))) (by rw[qaw,List.length_drop,hn2]) (fun k u h=>by rw[Addr.add_lit,Addr.add_lit,Nat.add_assoc];exact hcl _ u (qgR ls (j+1) (by omega) k u h)) (by omega) (by unfold maxLen;omega) (by omega)
  refine⟨v',w',hrun,⟨Nat.le_trans hbs r2.size,.inl ?_⟩,(Below.refl _ W).grown r2 (Nat.le_refl _) (fun k e'=>by cases e')⟩;have e4:qaa (ls.eraseIdx j)=qaa (ls.take j)++qaa (ls.drop (j+1)):=by rw[he];unfold qaa;rw[List.flatMap_append]
  rw[e4,hel,show ls.length - 1=j+n2 by omega];exact qaQ r1 hbs
theorem qlm {ops:Array Oper} {rest:List Oper} {o:Oper} {a:Act} {Q:Exit→Act→World→Prop} {w:World} (hgd:o.guard=none) (s x:Operand)
 (ho:o.op= .call {callee:= .builtin .append,args:=#[s,x],argTypes:=#[31,31]}) (hty:o.type=31)
 {base:Nat} {l:List Lb} {v:Value} (hs:a.eval s=v) (hx:a.eval x= .slice (some ⟨w.heap.size,0,none⟩) 1 1) (hI:qok base w v l) (hl:l.length≤1000) (y:Lb)
 (h: ∀v' w',w'.ownsRow base 44 2 v' (l++[y]).length (qaa (l++[y]))→Below base w w'→wpList Tryz.prog ops Q rest (a.put o.dst v') w'):
 wpList Tryz.prog ops Q (o::rest) a (w.alloc (.cells #[.string (BS y.1),.string (BS y.2)] 44)):=by
 have e4:qaa (l++[y])=qaa l++[.string (BS y.1),.string (BS y.2)]:=by unfold qaa;rw[List.flatMap_append];rfl
 have hu: ∀u∈[Value.string (BS y.1),.string (BS y.2)],u.oneCell'=true:=by intro u hu;simp at hu;rcases hu with rfl|rfl<;>rfl
 rcases hI.2 with own|⟨b,off,rfl,hb,hc⟩
 ·refine qgm hgd s x 31 ho 2 #[.string (BS y.1),.string (BS y.2)] rfl (by decide) base (.agg #[.string ⟨#[]⟩,.string ⟨#[]⟩]) 32 (by kernel_rfl) qcJ rfl v l.length (qaa l) hs hx own hu (by decide) (by omega) hI.1 ?_;intro v' w' h1 h2 _ _ _;exact h v' w' (by rw[e4,List.length_append];exact h1) h2
 ·obtain⟨i,hi,hz0,hz1,hz2⟩:=info_parts qcJ;refine wpList_append_grows _ hgd s x 31 ho 44 i _ 2 32 (by kernel_rfl) hi hz0 hz1 hz2 rfl (by decide) (some ⟨b,off,none⟩) l.length l.length (qaa l) hs (by simp) (by rw[qaw]) ?_ ⟨w.heap.size,0,none⟩ 1 1 [.string (BS y.1),.string (BS y.2)] hx (by simp) ?_ hu (by omega) (by unfold maxLen;omega) (by omega) ?_
  ·intro b' hb' k u hk;cases hb';rw[Addr.add_lit];exact(((Below.refl w.heap.size w).alloc (Nat.le_refl _) _).cell (p:=⟨b,off+k,none⟩) hb).trans (hc k u hk)
  ·intro k u hk;rw[Addr.add_lit,Nat.zero_add,Lib.cell_of_heap (World.alloc_heap_new _ _)];simpa using hk
  ·intro v' w' h1 h2;refine h v' w' ?_ ?_
   ·rw[e4,List.length_append];exact qaQ h1 (by have:=hI.1;simp;omega)
   ·exact((Below.refl base w).alloc hI.1 _).grown h2 (by have:=hI.1;simp;omega) (fun k e'=>by cases e')
theorem qtP {a:Act} {w:World} {b o n c j:Nat} {p:Oper} (ho:p.op= .slice 31 (.tmp 44) none (some (.tmp 45)) (some (.tmp 46))) (h44:a.eval (.tmp 44)= .slice (some ⟨b,o,none⟩) n c) (h45:a.eval (.tmp 45)= .int .i64 (j:Int)) (h46:a.eval (.tmp 46)= .int .i64 (j:Int)) (hj:j≤c):
 (execOp a.eval p).run Tryz.prog w= .ok (.value (.slice (some ⟨b,o,none⟩) j j)) w:=by
 have ht:Tryz.prog.underlying 31=some (.slice (Tryz.prog.elem 31)):=by kernel_rfl
 have h:=run_slice_hm (P:=Tryz.prog) w 31 (some ⟨b,o,none⟩) n c ht .i64 .i64 (j:Int) (j:Int) (by omega) (by omega) (by omega)
 have e:sliced (some ⟨b,o,none⟩) 0 (j:Int).toNat (j:Int).toNat 2= .slice (some ⟨b,o,none⟩) j j:=by
  unfold sliced;simp[Addr.add]
 have hs:(sizeOf (Tryz.prog.elem 31)).run Tryz.prog w= .ok 2 w:=by kernel_rfl
 rw[hs] at h;simp only[Result.andThen,e] at h;simp[execOp,ho,h44,h45,h46,run_sliceAt_slice (P:=Tryz.prog) (w:=w) 31 _ _ _ _ ht,h,Result.andThen]
theorem qtC {a:Act} {w:World} {b o n c j:Nat} {p:Oper} (ho:p.op= .slice 31 (.tmp 48) (some (.tmp 50)) none none) (h44:a.eval (.tmp 48)= .slice (some ⟨b,o,none⟩) n c) (h45:a.eval (.tmp 50)= .int .i64 ((j:Int)+1)) (hj:j<n):
 (execOp a.eval p).run Tryz.prog w= .ok (.value (sliced (some ⟨b,o,none⟩) (j+1) n c 2)) w:=by
 have ht:Tryz.prog.underlying 31=some (.slice (Tryz.prog.elem 31)):=by kernel_rfl
 have h:=run_slice_l (P:=Tryz.prog) w 31 (some ⟨b,o,none⟩) n c ht .i64 ((j:Int)+1) (by omega) (by omega);have hs:(sizeOf (Tryz.prog.elem 31)).run Tryz.prog w= .ok 2 w:=by kernel_rfl
 rw[hs,show((j:Int)+1).toNat=j+1 by omega] at h;simp only[Result.andThen] at h;simp[execOp,ho,h44,h45,run_sliceAt_slice (P:=Tryz.prog) (w:=w) 31 _ _ _ _ ht,h,Result.andThen]
theorem qtU {a:Act} {w:World} {s t:Value} {p:Oper} {v:Value} {w':World} (ho:p.op= .call {callee:= .builtin .append,args:=#[.tmp 47,.tmp 51],argTypes:=#[31,31]}) (hty:p.type=31) (h44:a.eval (.tmp 47)=s) (h45:a.eval (.tmp 51)=t)
 (h:(Builtin.append_ #[31,31] 31 #[s,t]).run Tryz.prog w= .ok v w'):
 (execOp a.eval p).run Tryz.prog w= .ok (.value v) w':=by
 simp[execOp,ho,resolve,invoke,builtin,h44,h45,hty,h,Result.andThen]
def SBt (s:Smp):Prop:=SBd s∧ -9223372036854775808≤s.t∧s.t≤9223372036854775807
end Go.Proofs.YtdeimnnpcfncpaaGreatDoor.X
end
