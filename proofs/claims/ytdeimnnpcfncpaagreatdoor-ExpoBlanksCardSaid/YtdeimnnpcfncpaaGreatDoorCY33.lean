/- Parts of the proof: A18 A19. -/
import Derived.Laws.CopyRow
import Derived.Laws.IdiomCopy
import Derived.Test.YtdeimnnpcfncpaaGreatDoorCY30
set_option linter.unusedVariables false
set_option linter.unusedSimpArgs false
set_option maxRecDepth 100000
set_option maxHeartbeats 64000000
namespace Go.Proofs.YtdeimnnpcfncpaaGreatDoor.X
open Go Go.RowKit
theorem qb9 (a b:List Lb):qaa (a++b)=qaa a++qaa b:=by simp[qaa]
theorem qhk (ls:List Lb) (n:Nat):qaa (ls.take n)=(qaa ls).take (n*2):=by
 induction ls generalizing n with
 |nil=>simp[qaa]
 |cons x t ih=>
  cases n with
  |zero=>simp[qaa]
  |succ n=>
   rw[List.take_succ_cons,show(n+1)*2=n*2+2 by omega];show qaX x++qaa (t.take n)=(qaX x++qaa t).take (n*2+2);rw[ih];rfl
theorem qix (ls:List Lb) (i:Nat) (x:Lb):qaa (ls.set i x)=((qaa ls).set (i*2) (.string (BS x.1))).set (i*2+1) (.string (BS x.2)):=by
 induction ls generalizing i with
 |nil=>simp[qaa]
 |cons y t ih=>
  cases i with
  |zero=>rfl
  |succ i=>
   rw[List.set_cons_succ,show(i+1)*2=i*2+2 by omega];show qaX y++qaa (t.set i x)=((qaX y++qaa t).set (i*2+2) _).set (i*2+2+1) _;rw[ih];rfl
def Row (base g cap:Nat) (ls:List Lb) (w:World):Prop:=base≤g∧ls.length≤cap∧cap≤maxLen∧ ∃cur:Array Value,w.heap[g]?=some (.cells cur 44 (0,0))∧cur.size=cap*2∧cur.toList.take (ls.length*2)=qaa ls
theorem Row.owns {base g cap:Nat} {ls:List Lb} {w:World} (h:Row base g cap ls w):w.ownsRow base 44 2 (.slice (some ⟨g,0,none⟩) ls.length cap) ls.length (qaa ls):=by
 obtain⟨h1,h2,h3,cur,h4,h5,h6⟩:=h;exact⟨qaw ls,.inr ⟨g,cap,cur,rfl,h1,h4,h2,h3,h5,h6⟩⟩
theorem Row.lt {base g cap:Nat} {ls:List Lb} {w:World} (h:Row base g cap ls w):g<w.heap.size:=by
 obtain⟨_,_,_,cur,h4,_⟩:=h;exact(Array.getElem?_eq_some_iff.1 h4).1
theorem Row.on {base g cap:Nat} {ls:List Lb} {w w':World} (h:Row base g cap ls w) (hb:Below w.heap.size w w'):Row base g cap ls w':=by
 have hl:=h.lt;obtain⟨h1,h2,h3,cur,h4,h5⟩:=h;exact⟨h1,h2,h3,cur,(hb.block g hl).trans h4,h5⟩
theorem Row.at' {base g cap:Nat} {ls:List Lb} {w:World} (h:Row base g cap ls w) (i:Nat) (hi:i<ls.length):(w.cell? ⟨g,i*2,none⟩=some (.string (BS (ls.getD i lb0).1))∧w.cell? ⟨g,i*2+1,none⟩=some (.string (BS (ls.getD i lb0).2)))∧w.frozen? ⟨g,i*2,none⟩=false∧w.frozen? ⟨g,i*2+1,none⟩=false:=by
 obtain⟨h1,h2,h3,cur,h4,h5,h6⟩:=h
 have hc: ∀j,j<ls.length*2→w.cell? ⟨g,j,none⟩=(qaa ls)[j]?:=fun j hj=>by
  rw[Lib.cell_of_heap h4,←h6,List.getElem?_take_of_lt hj];simp
 refine⟨?_,Lib.frozen_of_heap h4 _,Lib.frozen_of_heap h4 _⟩;rw[hc _ (by omega),hc _ (by omega)];exact qbL ls i hi
theorem Row.set {base g cap:Nat} {ls:List Lb} {w:World} (h:Row base g cap ls w) (i:Nat) (hi:i<ls.length) (x:Lb):
 Row base g cap (ls.set i x) ((w.setCell ⟨g,i*2,none⟩ (.string (BS x.1))).setCell ⟨g,i*2+1,none⟩ (.string (BS x.2))):=by
 obtain⟨h1,h2,h3,cur,h4,h5,h6⟩:=h;refine⟨h1,by rw[List.length_set];exact h2,h3,(cur.setIfInBounds (i*2) (.string (BS x.1))).setIfInBounds (i*2+1) (.string (BS x.2)),?_,by simp[h5],?_⟩
 ·simp[World.setCell,Array.getElem?_modify,h4]
 ·rw[List.length_set,qix,←h6];apply List.ext_getElem?;intro j;simp only[Array.toList_setIfInBounds,List.getElem?_take,List.getElem?_set,List.length_take,List.length_set,Array.length_toList]
  by_cases hj:j<ls.length*2
  ·have hm:min (ls.length*2) cur.size=ls.length*2:=by omega
   simp only[hj,if_true,hm]
   by_cases e1:i*2+1=j
   ·subst e1;simp[show i*2+1<cur.size by omega,hj]
   ·by_cases e2:i*2=j
    ·subst e2;simp[show i*2<cur.size by omega,hj]
    ·simp[e1,e2]
  ·simp only[hj,if_false]
   split
   ·rename_i e;subst e;omega
   ·split
    ·rename_i e;subst e;omega
    ·rfl
theorem qen {P:Program} (w W:World) (t e ty:TypeId) (z:Value) (ht:P.underlying t=some (.slice e)) (hv: ∀w,(zeroValue e).run P w= .ok z w) (b o m c:Nat) (zs:List Value) (hzc:(Builtin.zeroCells z.cells (m+1)).toList=zs)
 (hst:(storeCells ⟨b,o,none⟩ zs 0).run P w= .ok () W):(Builtin.clear_ #[t] ty #[.slice (some ⟨b,o,none⟩) (m+1) c]).run P w= .ok (.tuple #[]) W:=by
 simp[Builtin.clear_,run_underlying ht,hv,hzc,hst]
theorem Row.cut {base g cap:Nat} {ls:List Lb} {w:World} (h:Row base g cap ls w) (hb:base≤w.heap.size) (i:Nat) (hi:i≤ls.length) (h0:0<ls.length - i):
 ∃W,(∀ty,(Builtin.clear_ #[31] ty #[.slice (some ⟨g,i*2,none⟩) (ls.length - i) (cap - i)]).run Tryz.prog w= .ok (.tuple #[]) W)∧Row base g cap (ls.take i) W∧Below base w W:=by
 obtain⟨h1,h2,h3,cur,h4,h5,h6⟩:=h;have hz:Tryz.prog.underlying 31=some (.slice 44):=by kernel_rfl
 have hv: ∀W,(zeroValue 44).run Tryz.prog W= .ok (.agg #[.string ⟨#[]⟩,.string ⟨#[]⟩]) W:=fun W=>Tryz.zeroValue44 W
 obtain⟨m,hm⟩: ∃m,ls.length - i=m+1:=⟨ls.length - i - 1,by omega⟩
 have hzc:(Builtin.zeroCells (Value.agg #[.string ⟨#[]⟩,.string ⟨#[]⟩]).cells (m+1)).toList=List.replicate ((m+1)*2) (.string ⟨#[]⟩):=by
  show(Builtin.zeroCells #[.string ⟨#[]⟩,.string ⟨#[]⟩] (m+1)).toList=_;unfold Builtin.zeroCells;apply List.ext_getElem
  ·simp
  ·intro j a b;simp only[Array.toList_ofFn,List.getElem_ofFn,List.getElem_replicate];rcases(show j%2=0∨j%2=1 by omega)with e|e<;>simp[e]
 have hst:=run_storeCells_at (P:=Tryz.prog) g (i*2) 44 (List.replicate ((m+1)*2) (.string ⟨#[]⟩)) 0 cur w h4 (by rw[List.length_replicate,h5];omega) (by intro v hv';rw[List.eq_of_mem_replicate hv'];rfl);obtain⟨RW,hRW⟩: ∃RW:Array Value,RW=(cur.toList.take (i*2+0)++List.replicate ((m+1)*2) (Value.string ⟨#[]⟩)++cur.toList.drop (i*2+0+(List.replicate ((m+1)*2) (Value.string ⟨#[]⟩)).length)).toArray:=⟨_,rfl⟩;rw[←hRW] at hst;refine⟨w.setRow g RW,fun ty=>?_,⟨h1,by rw[List.length_take];omega,h3,RW,setRow_heap w g cur RW 44 _ h4,?_,?_⟩,?_⟩
 ·rw[hm];exact qen w _ 31 44 ty _ hz hv g (i*2) m (cap - i) _ hzc hst
 ·rw[hRW,List.size_toArray];simp only[List.length_append,List.length_take,List.length_drop,List.length_replicate,Array.length_toList];omega
 ·rw[List.length_take,qhk,←h6,Nat.min_eq_left hi,hRW];simp only[Nat.add_zero];rw[List.append_assoc,List.take_append_of_le_length (by rw[List.length_take,Array.length_toList];omega),List.take_take,List.take_take]
  congr 1
  omega
 ·refine⟨rfl,rfl,rfl,by simp[World.setRow],fun k hk=>?_⟩;unfold World.setRow;rw[Array.getElem?_modify,if_neg (by omega)]
def kpt (ls:List Lb) (j:Nat):List Lb:=(ls.take j).filter (fun x=>!emp x)
theorem qeY (ls:List Lb) (j:Nat) (h:j<ls.length):kpt ls (j+1)=kpt ls j++(if emp (ls.getD j lb0) then [] else [ls.getD j lb0]):=by
 unfold kpt;rw[List.take_add_one,List.getElem?_eq_getElem h,List.filter_append,List.getD_eq_getElem?_getD,List.getElem?_eq_getElem h];show _++[ls[j]].filter _=_++(if emp ls[j] then _ else _);cases hx:emp ls[j]<;>simp[hx]
structure qnQ (ls cs:List Lb) (i j:Nat):Prop where
 len:cs.length=ls.length
 lt:i<j
 le:j≤ls.length
 low:cs.take i=kpt ls j
 high: ∀k,i≤k→cs.getD k lb0=ls.getD k lb0
theorem qnQ.skip {ls cs:List Lb} {i j:Nat} (h:qnQ ls cs i j) (hj:j<ls.length) (he:emp (ls.getD j lb0)=true):qnQ ls cs i (j+1):=
 ⟨h.len,by have:=h.lt;omega,hj,by rw[h.low,qeY ls j hj,he];simp,h.high⟩
theorem qnQ.keep {ls cs:List Lb} {i j:Nat} (h:qnQ ls cs i j) (hj:j<ls.length) (he:emp (ls.getD j lb0)=false):qnQ ls (cs.set i (ls.getD j lb0)) (i+1) (j+1):=by
 have hl:=h.len;have hlt:=h.lt;refine⟨by rw[List.length_set];exact h.len,by omega,hj,?_,fun k hk=>?_⟩
 ·rw[qeY ls j hj,he,←h.low,List.take_add_one];simp only[Bool.false_eq_true,if_false];rw[List.getElem?_set_self (by omega),List.take_set_of_le (by omega)];rfl
 ·have e:(cs.set i (ls.getD j lb0))[k]?=cs[k]?:=List.getElem?_set_ne (by omega);rw[List.getD_eq_getElem?_getD,e,←List.getD_eq_getElem?_getD];exact h.high k (by omega)
theorem qfK: ∀(ls:List Lb) (i:Nat),(qi8 ls i= -1∧ ∀x∈ls,emp x=false)∨ ∃k,k<ls.length∧qi8 ls i=((i+k:Nat):Int)∧emp (ls.getD k lb0)=true∧ ∀x∈ls.take k,emp x=false
 | [],_=> .inl ⟨rfl,fun x hx=>by cases hx⟩
 |x::t,i=>by
  cases h:emp x with
  |true=>exact .inr ⟨0,by simp,by simp[qi8,h],by simpa using h,fun y hy=>by simp at hy⟩
  |false=>
   rcases qfK t (i+1)with ⟨e,ha⟩|⟨k,hk,e,ht,ha⟩
   ·refine .inl ⟨by simp[qi8,h,e],fun y hy=>?_⟩;rcases List.mem_cons.1 hy with rfl|hy
    ·exact h
    ·exact ha y hy
   ·refine .inr ⟨k+1,by simpa using hk,by unfold qi8;rw[h,e];simp;omega,by simpa using ht,fun y hy=>?_⟩;rw[List.take_succ_cons] at hy;rcases List.mem_cons.1 hy with rfl|hy
    ·exact h
    ·exact ha y hy
theorem qr6 (base g cap:Nat) (ls:List Lb) (hl:ls.length≤1000000) (w:World) (h:Row base g cap ls w) (hb:base≤w.heap.size):
 Calls Tryz.prog 103 #[.slice (some ⟨g,0,none⟩) ls.length cap,qtm] w fun e w'=> ∃rs:List Lb,rs=ls.filter (fun x=>!emp x)∧e= .returned (.slice (some ⟨g,0,none⟩) rs.length cap)∧Row base g cap rs w'∧Below base w w':=by
 have hi:=qkG _ ls (by omega) w (qaN.of_owned h.owns);have H:=Lh h;rcases qfK ls 0 with ⟨e1,hall⟩|⟨k0,hk0,e1,he,hlow⟩
 ·rw[e1] at hi;have hf:Hid (ls.filter (fun x=>!emp x)=ls):=Lh (List.filter_eq_self.2 fun x hx=>by rw[hall x hx];rfl);replace hi:=Lh hi;clear h hall e1;go_enter Tryz.func103,Tryz.ntmps103;go_wp2_with fail;refine hi.out.mono ?_;rintro e w1 ⟨rfl,B⟩;go_wp2_with fail;go_ret;exact⟨ls,hf.out.symm,rfl,H.out.on B,B.mono hb⟩
 ·rw[e1,Nat.zero_add] at hi;replace hi:=Lh hi
  have I0:Hid (qnQ ls ls k0 (k0+1)):=Lh ⟨rfl,Nat.lt_succ_self _,hk0,by
   rw[qeY ls k0 hk0,he];simp only[if_true,List.append_nil];unfold kpt
   exact(List.filter_eq_self.2 fun x hx=>by rw[hlow x hx];rfl).symm,fun _ _=>rfl⟩
  have hne:((k0:Int)== -1)=false:=beq_eq_false_iff_ne.2 (by omega);obtain⟨n,hn⟩: ∃n,n=ls.length:=⟨_,rfl⟩;have hnh:=Lh hn;rw[←hn] at hl hk0⊢;clear h hlow e1 he hn;have hcap:Hid (ls.length≤cap∧cap≤maxLen):=Lh ⟨H.out.2.1,H.out.2.2.1⟩;go_enter Tryz.func103,Tryz.ntmps103;go_wp2_with fail;rw[hnh.out];refine hi.out.mono ?_;rintro e w1 ⟨rfl,B⟩;rw[←hnh.out];have H1:=Lh (H.out.on B);have B1:=Lh (B.mono hb);clear B hi H;go_wp2_with fail;go_loopg [5,6,7] (n+1) (fun gk s5 s6 _ wx=> ∃(i j:Nat) (cs:List Lb),s5= .int .i64 (i:Int)∧s6= .int .i64 (j:Int)∧j≤n∧i<j∧n - j<gk∧Hid (qnQ ls cs i j)∧Hid (Row base g cap cs wx)∧Hid (Below base w wx))
  case atStart=>exact⟨k0,k0+1,ls,rfl,by go_num,by omega,by omega,by omega,I0,H1,B1⟩
  case round=>
   obtain⟨i,j,cs,rfl,rfl,hjn,hij,hgk,I,R,B⟩:=hrel;clear I0 H1 B1 hk0 hne;have hcs:cs.length=n:=by rw[I.out.len,hnh.out]
   have hbx:=Nat.le_trans hb B.out.size
   by_cases hlt:j<n
   ·have u2:decide ((j:Int)<(n:Int))=true:=dT (by omega);have u3:decide (j<n)=true:=dT hlt;obtain⟨⟨x1,x2⟩,y1,y2⟩:=R.out.at' j (by omega);rw[I.out.high j (by omega)] at x1 x2;obtain⟨x,hx⟩: ∃x,Hid (x=ls.getD j lb0):=⟨_,Lh rfl⟩;rw[←hx.out] at x1 x2;have hBa: ∀ob,Hid (Below wr.heap.size wr (wr.alloc ob)):=fun ob=>Lh ((Below.refl _ _).alloc (Nat.le_refl _) ob)
    have cf:=qkU x (wr.alloc (.cells #[.string (BS x.1),.string (BS x.2)] 44))
    cases hxn:emp x with
    |true=>
     rw[hxn] at cf;replace cf:=Lh cf;have I2:=Lh (I.out.skip (by rw[←hnh.out];exact hlt) (by rw[←hx.out];exact hxn));clear hxn I hcs;go_wp2_with fail;refine cf.out.mono ?_;rintro e w2 ⟨rfl,B2⟩;have B3:=Lh ((hBa _).out.trans (B2.mono (hBa _).out.size));clear B2 cf hBa;go_wp2_with fail;go_roundg (gk - 1)
     case measure=>omega
     case rel=>exact⟨i,j+1,cs,rfl,by go_num,by omega,by omega,by omega,I2,Lh (R.out.on B3.out),Lh (B.out.trans (B3.out.mono hbx))⟩
    |false=>
     rw[hxn] at cf;replace cf:=Lh cf;have I2:=Lh (I.out.keep (by rw[←hnh.out];exact hlt) (by rw[←hx.out];exact hxn));rw[←hx.out] at I2;have hs:=wr.heap.size;clear hxn I;go_wp2_with fail;refine cf.out.mono ?_;rintro e w2 ⟨rfl,B2⟩;have d0:w2.cell? ⟨wr.heap.size,0,none⟩=some (.string (BS x.1)):=(B2.cell (p:=⟨wr.heap.size,0,none⟩) (by simp)).trans (by rw[Lib.cell_of_heap (Array.getElem?_push_size)];rfl);have d1:w2.cell? ⟨wr.heap.size,1,none⟩=some (.string (BS x.2)):=(B2.cell (p:=⟨wr.heap.size,1,none⟩) (by simp)).trans (by rw[Lib.cell_of_heap (Array.getElem?_push_size)];rfl);have B3:=Lh ((hBa _).out.trans (B2.mono (hBa _).out.size));have R3:=Lh (R.out.on B3.out);obtain⟨⟨a1,a2⟩,b1,b2⟩:=R3.out.at' i (by omega);have R4:=Lh (R3.out.set i (by omega) x);have B4:Hid (Below base w2 ((w2.setCell ⟨g,i*2,none⟩ (.string (BS x.1))).setCell ⟨g,i*2+1,none⟩ (.string (BS x.2)))):=Lh (((Below.refl base w2).setCell (p:=⟨g,i*2,none⟩) R3.out.1 _).setCell (p:=⟨g,i*2+1,none⟩) R3.out.1 _);have B5:=Lh (B.out.trans ((B3.out.mono hbx).trans B4.out));clear B2 cf hBa B4;go_wp2_with fail;go_roundg (gk - 1)
     case measure=>omega
     case rel=>exact⟨i+1,j+1,cs.set i x,by go_num,by go_num,by omega,by omega,by omega,I2,R4,B5⟩
   ·obtain rfl:j=n:=by omega
    have u2:decide ((j:Int)<(j:Int))=false:=dF (by omega);have hk:Hid (cs.take i=ls.filter (fun x=>!emp x)):=Lh (by rw[I.out.low];unfold kpt;rw[List.take_of_length_le (by rw[←hnh.out];exact Nat.le_refl _)]);obtain⟨W,hcl,R2,B2⟩:=R.out.cut hbx i (by omega) (by omega);rw[hcs] at hcl;have hlk:(cs.take i).length=i:=by rw[List.length_take];omega
    have R3:=Lh R2;have B3:=Lh (B.out.trans B2);have hc2:j≤cap:=by have:=hcap.out.1;rw[←hnh.out] at this;exact this
    clear I R B R2 B2;go_wp2_with fail;go_ret;exact⟨cs.take i,hk.out,by rw[hlk];rfl,R3.out,B3.out⟩
theorem qpn (base:Nat) (v:Value) (ls:List Lb) (hl:ls.length≤1000000) (w:World) (h:w.ownsRow base 44 2 v ls.length (qaa ls)) (hb:base≤w.heap.size):
 Calls Tryz.prog 103 #[v,qtm] w fun e w'=> ∃v',e= .returned v'∧w'.ownsRow base 44 2 v' (ls.filter (fun x=>!emp x)).length (qaa (ls.filter (fun x=>!emp x)))∧Below base w w':=by
 rcases h.2 with ⟨rfl,h0⟩|⟨g,cap,cur,rfl,hbg,h3,h4,h5,h6,h7⟩
 ·have hls:ls=[]:=List.eq_nil_of_length_eq_zero h0;subst hls;have hi:=Lh (qkG (.slice none 0 0) [] (by decide) w (.inl ⟨none,0,fun _=>rfl,rfl,rfl⟩));clear h h0;go_enter Tryz.func103,Tryz.ntmps103;go_wp2_with fail;refine hi.out.mono ?_;rintro e w1 ⟨rfl,B⟩;have e1:((qi8 [] 0)== -1)=true:=rfl;rw[show qi8 [] 0= -1 from rfl];go_wp2_with fail;go_ret;exact⟨_,rfl,⟨rfl,.inl ⟨rfl,rfl⟩⟩,B.mono hb⟩
 ·refine(qr6 base g cap ls hl w ⟨hbg,h4,h5,cur,h3,h6,h7⟩ hb).mono ?_;rintro e w' ⟨rs,rfl,rfl,R,B⟩;exact⟨_,rfl,R.owns,B⟩
theorem qiJ (ls:List Lb) (i:Nat) (h:i<ls.length):qaO (ls.drop i)=if qb0 (ls.getD i lb0)=0 then qaO (ls.drop (i+1)) else qb0 (ls.getD i lb0):=by
 rw[qgf ls i h];rfl
theorem qlG (ls:List Lb) (i:Nat) (h:i+1<ls.length):qga (ls.drop i)=((ls.getD i lb0).1==(ls.getD (i+1) lb0).1||qga (ls.drop (i+1))):=by
 rw[qgf ls i (by omega),qgf ls (i+1) h];rfl
theorem qpA (ls:List Lb) (i:Nat) (h:ls.length≤i+1):qga (ls.drop i)=false:=by
 rcases Nat.lt_or_ge i ls.length with g|g
 ·rw[qgf ls i g,List.drop_of_length_le h];rfl
 ·rw[List.drop_of_length_le g];rfl
theorem qhp (v:Value) (ls:List Lb) (hl:ls.length≤1000000) (w:World) (hs: ∃a c,v= .slice a ls.length c):Calls Tryz.prog 52 #[v] w fun e w'=>e= .returned (.tuple #[if 64<ls.length then .slice none 0 0 else v,.int .i64 (if 64<ls.length then 5 else 0)])∧w=w':=by
 obtain⟨a,c,rfl⟩:=hs
 by_cases h:64<ls.length
 ·have u1:decide ((64:Int)<(ls.length:Int))=true:=dT (by omega);rw[if_pos h,if_pos h];go_enter Tryz.func52,Tryz.ntmps52;go_wp2_with fail;go_ret2;exact⟨rfl,rfl⟩
 ·have u1:decide ((64:Int)<(ls.length:Int))=false:=dF (by omega);rw[if_neg h,if_neg h];go_enter Tryz.func52,Tryz.ntmps52;go_wp2_with fail;go_ret2;exact⟨rfl,rfl⟩
def qqQ (base:Nat) (ls:List Lb) (w0:World) (e:Ending) (w':World):Prop:=
 ∃v',e= .returned (.tuple #[v',.int .i64 (ofF ls).1])∧w'.ownsRow base 44 2 v' (ofF ls).2.length (qaa (ofF ls).2)∧Below w0.heap.size w0 w'
theorem qaQ {base base' e k n:Nat} {v:Value} {xs:List Value} {w:World} (h:w.ownsRow base e k v n xs) (hb:base'≤base):w.ownsRow base' e k v n xs:=by
 refine⟨h.1,?_⟩;rcases h.2 with h'|⟨g,cap,cur,h1,h2,h3⟩
 ·exact .inl h'
 ·exact .inr ⟨g,cap,cur,h1,Nat.le_trans hb h2,h3⟩
theorem qd8 (base:Nat) (w:World):w.ownsRow base 44 2 (.slice none 0 0) ([]:List Lb).length (qaa []):=⟨rfl,.inl ⟨rfl,rfl⟩⟩
theorem qlt (v:Value) (ls:List Lb) (hl:ls.length≤1000000) (hb: ∀x∈ls,x.1.length≤1000000000∧x.2.length≤1000000000) (w:World) (hr:qaN w v ls) (hne:ls≠[]∨v= .slice none 0 0):
 Calls Tryz.prog 43 #[v] w (qqQ w.heap.size ls w):=by
 obtain⟨a,c,rfl⟩:=hr.shape;have hrh:=Lh hr;have hbh:=Lh hb;have hneh:=Lh hne;clear hr hb hne;obtain⟨n,hn⟩: ∃n,n=ls.length:=⟨_,rfl⟩;have hnh:=Lh hn;rw[←hn] at hl⊢;clear hn;go_enter Tryz.func43,Tryz.ntmps43;go_wp2_with fail;go_loopg [11] (n+1) (fun gk s11 wx=> ∃i:Nat,i≤n∧n - i<gk∧s11= .int .i64 (i:Int)∧Hid (qaO ls=qaO (ls.drop i))∧Hid (Below w.heap.size w wx))
 case atStart=>exact⟨0,by omega,by omega,rfl,Lh rfl,Lh (Below.refl _ _)⟩
 case round=>
  obtain⟨i,hi,hgk,rfl,hI,B⟩:=hrel
  by_cases hlt:i<n
  ·have u2:decide ((i:Int)<(n:Int))=true:=dT (by omega);have u3:decide (i<n)=true:=dT hlt;have hil:i<ls.length:=by rw[←hnh.out];exact hlt
   obtain⟨b,off,rfl,hbl,x1,x2⟩:=(hrh.out.on B.out).at' i hil;have hI2:=hI.out;rw[qiJ ls i hil] at hI2;obtain⟨x,hx⟩: ∃x,Hid (x=ls.getD i lb0):=⟨_,Lh rfl⟩;rw[←hx.out] at x1 x2 hI2;have hxb:x.1.length≤1000000000∧x.2.length≤1000000000:=hbh.out x (by rw[hx.out,List.getD_eq_getElem?_getD,List.getElem?_eq_getElem hil];exact List.getElem_mem _);have co:=Lh (fun W=>qgP x (by omega) (by omega) W);have hBB: ∀ob,Hid (Below w.heap.size w (wr.alloc ob)):=fun ob=>Lh (B.out.alloc B.out.size ob)
   by_cases h0:qb0 x=0
   ·rw[if_pos h0] at hI2;have hI3:=Lh hI2;rw[h0] at co;clear hI hI2 h0;go_wp2_with fail;refine(co.out _).mono ?_;rintro e w1 ⟨rfl,hb1⟩;have B1:=Lh ((hBB _).out.trans (hb1.mono (hBB _).out.size));clear hb1 co x1 x2 hBB;go_wp2_with fail;go_roundg (gk - 1)
    case measure=>omega
    case rel=>exact⟨i+1,by omega,by omega,by go_num,hI3,B1⟩
   ·rw[if_neg h0] at hI2;have hF:Hid ((ofF ls).1=qb0 x∧(ofF ls).2=[]):=Lh (by unfold ofF;rw[if_neg (by rw[hI2];exact h0),hI2];exact⟨rfl,rfl⟩);have u4:(qb0 x !=0)=true:=by simpa using h0
    obtain⟨ov,hov⟩: ∃ov,ov=qb0 x:=⟨_,rfl⟩;rw[←hov] at u4 hF co;clear hov hI hI2 h0;go_wp2_with fail;refine(co.out _).mono ?_;rintro e w1 ⟨rfl,hb1⟩;have B1:=Lh ((hBB _).out.trans (hb1.mono (hBB _).out.size));clear hb1 co x1 x2 hBB;go_wp2_with fail;go_ret2;exact⟨_,by rw[hF.out.1];rfl,by rw[hF.out.2];exact qd8 _ _,B1.out⟩
  ·obtain rfl:i=n:=by omega
   have u2:decide ((i:Int)<(i:Int))=false:=dF (by omega);have hf0:qaO ls=0:=by rw[hI.out,List.drop_of_length_le (by rw[←hnh.out];exact Nat.le_refl _)];rfl
   have hO:Hid (ofF ls=if qaC ls=true then (43,[]) else if 64<((srt ls).filter (fun x=>!emp x)).length then (5,[]) else (0,(srt ls).filter (fun x=>!emp x))):=Lh (by unfold ofF;rw[if_pos hf0]);have hrw:=Lh (hrh.out.on B.out);have cc:=Lh (qmL _ ls wr hrw.out hneh.out (by rw[←hnh.out];exact hl));rw[←hnh.out] at cc;clear hf0 hI;go_wp2_with fail;refine cc.out.mono ?_;rintro e w2 ⟨v2,rfl,own2,B2⟩;have own2h:=Lh own2;have B2h:=Lh (B.out.trans (B2.mono B.out.size));have cs:=Lh (qqn v2 ls wr.heap.size w2 (by rw[←hnh.out];exact own2) B2.size (by rw[←hnh.out];exact hl));have hbw:=B.out.size;have s2:=B2.size;clear own2 B2 cc;go_wp2_with fail;refine cs.out.mono ?_;rintro e w3 ⟨rfl,qs,hp,hs,own3,B3⟩;have hql:qs.length=i:=by rw[hp.length_eq,←hnh.out]
   rw[hql] at own3;have own3h:=Lh own3;have B3h:=Lh (B2h.out.trans (B3.mono hbw));have hq:Hid (qga qs=qaC ls∧(qga qs=false→qs=srt ls)):=Lh (qfG hp hs);have LR3:Hid (qaN w3 v2 qs):=Lh (qaN.of_owned (base:=wr.heap.size) (by rw[hql];exact own3));have hqlh:=Lh hql;have hs3:wr.heap.size≤w3.heap.size:=Nat.le_trans s2 B3.size;obtain⟨base1,hbase1⟩: ∃b,b=wr.heap.size:=⟨_,rfl⟩;rw[←hbase1] at own3h hs3 hbw;clear hbase1;obtain⟨a3,c3,rfl⟩:=qae own3;clear own3 B3 cs hp hs hql own2h B2h hrw u2 s2;go_wp2_with fail;go_loopg [8] (i+1) (fun gk s8 wx=> ∃j:Nat,(j=0∨j<i)∧i - j<gk∧s8= .int .i64 ((j+1:Nat):Int)∧Hid (qga qs=qga (qs.drop j))∧Hid (Below w3.heap.size w3 wx))
   case atStart=>exact⟨0,.inl rfl,by omega,rfl,Lh rfl,Lh (Below.refl _ _)⟩
   case round=>
    obtain⟨j,hj,hgk2,rfl,hJ,B4⟩:=hrel
    by_cases hlt:j+1<i
    ·have u2:decide (((j+1:Nat):Int)<(i:Int))=true:=dT (by omega);have u3:decide (j+1<i)=true:=dT hlt;obtain⟨b,off,hab,hbl,x1,-⟩:=(LR3.out.on B4.out).at' (j+1) (by rw[hqlh.out];exact hlt);obtain⟨b',off',hab',-,y1,-⟩:=(LR3.out.on B4.out).at' j (by rw[hqlh.out];omega);subst hab
     obtain⟨rfl,rfl⟩:b=b'∧off=off':=by
      simp only[Option.some.injEq,Addr.mk.injEq] at hab';exact⟨hab'.1,hab'.2.1⟩
     have hJ2:=hJ.out;rw[qlG qs j (by rw[hqlh.out];exact hlt)] at hJ2;obtain⟨x,hx⟩: ∃x,(qs.getD (j+1) lb0).1=x:=⟨_,rfl⟩;obtain⟨y,hy⟩: ∃y,(qs.getD j lb0).1=y:=⟨_,rfl⟩;rw[hx] at x1 hJ2;rw[hy] at y1 hJ2;have e9:(((j+1:Nat):Int) - 1)=(j:Int):=by omega
     have e10:((BS x).toList==(BS y).toList)=(y==x):=by
      rw[qad,qad,Bool.eq_iff_iff,beq_iff_eq,beq_iff_eq];exact eq_comm
     clear hJ hx hy hab'
     cases hxy:(y==x)with
     |true=>
      rw[hxy] at hJ2 e10;have hF:Hid ((ofF ls).1=43∧(ofF ls).2=[]):=Lh (by rw[hO.out,if_pos (by rw[←hq.out.1,hJ2];rfl)];exact⟨rfl,rfl⟩);clear hJ2 hxy;go_upto_region 13 with (fail)
      go_quiet (fail);go_wp2_with fail;go_ret2;exact⟨_,by rw[hF.out.1];rfl,by rw[hF.out.2];exact qd8 _ _,B3h.out.trans (((bq B4.out _)).mono (Nat.le_trans hbw hs3))⟩
     |false=>
      rw[hxy] at hJ2 e10;rw[Bool.false_or] at hJ2;have hJ3:=Lh hJ2;clear hJ2 hxy;go_upto_region 13 with (fail)
      go_quiet (fail);go_wp2_with fail;go_roundg (gk - 1)
      case measure=>omega
      case rel=>exact⟨j+1,.inr hlt,by omega,by go_num,hJ3,Lh (bq B4.out _)⟩
    ·have u2:decide (((j+1:Nat):Int)<(i:Int))=false:=dF (by omega);have u3:decide (j+1<i)=false:=dF hlt;have hA:qga qs=false:=by rw[hJ.out];exact qpA _ _ (by rw[hqlh.out];omega)
     have hqs:=hq.out.2 hA;have hO2:Hid (ofF ls=if 64<(qs.filter (fun x=>!emp x)).length then (5,[]) else (0,qs.filter (fun x=>!emp x))):=Lh (by rw[hO.out,if_neg (by rw[←hq.out.1,hA];decide),hqs]);have own5:=qah own3h.out B4.out;have cd:=Lh (qpn base1 _ qs (by rw[hqlh.out];exact hl) _ (by rw[hqlh.out];exact own5) (Nat.le_trans hs3 B4.out.size));have hfl:(qs.filter (fun x=>!emp x)).length≤i:=by rw[←hqlh.out];exact List.length_filter_le _ _
     clear hA hqs hJ hq hO own5;go_wp2_with fail;refine cd.out.mono ?_;rintro e w6 ⟨v6,rfl,own6,B6⟩;have own6h:=Lh own6;have B6h:Hid (Below w.heap.size w w6):=Lh ((B3h.out.trans (B4.out.mono (Nat.le_trans hbw hs3))).trans (B6.mono hbw));have cb:=Lh (qhp v6 (qs.filter (fun x=>!emp x)) (by omega) w6 (qae own6));clear own6 B6 cd
     by_cases h64:64<(qs.filter (fun x=>!emp x)).length
     ·rw[if_pos h64,if_pos h64] at cb;have hF:Hid ((ofF ls).1=5∧(ofF ls).2=[]):=Lh (by rw[hO2.out,if_pos h64];exact⟨rfl,rfl⟩);clear h64 hfl;go_wp2_with fail;refine cb.out.mono ?_;rintro e w7 ⟨rfl,rfl⟩;go_wp2_with fail;go_ret2;exact⟨_,by rw[hF.out.1];rfl,by rw[hF.out.2];exact qd8 _ _,B6h.out⟩
     ·rw[if_neg h64,if_neg h64] at cb;have hF:Hid ((ofF ls).1=0∧(ofF ls).2=qs.filter (fun x=>!emp x)):=Lh (by rw[hO2.out,if_neg h64];exact⟨rfl,rfl⟩);clear h64 hfl;go_wp2_with fail;refine cb.out.mono ?_;rintro e w7 ⟨rfl,rfl⟩;go_wp2_with fail;go_ret2;exact⟨_,by rw[hF.out.1];rfl,by rw[hF.out.2];exact qaQ own6h.out hbw,B6h.out⟩
end Go.Proofs.YtdeimnnpcfncpaaGreatDoor.X
