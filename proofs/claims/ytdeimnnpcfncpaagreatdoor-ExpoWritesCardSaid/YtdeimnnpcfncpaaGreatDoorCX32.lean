/- Parts of the proof: Z1. -/
import Derived.Laws.MakeOwn
import Derived.Laws.OwnMore
import Derived.Test.YtdeimnnpcfncpaaGreatDoorCX28
set_option linter.unusedVariables false
set_option linter.unusedSimpArgs false
set_option maxRecDepth 100000
set_option maxHeartbeats 64000000
namespace Go.Proofs.YtdeimnnpcfncpaaGreatDoor
open Go Go.RowKit
theorem qe1 {W:World} {B e n:Nat} {v:Value} {xs:List Value} (h:W.ownsRow B e 1 v n xs): ∃a c,v= .slice a n c:=by
 rcases h.2 with ⟨rfl,rfl⟩|⟨g,cap,cur,rfl,_⟩
 ·exact⟨_,_,rfl⟩
 ·exact⟨_,_,rfl⟩
theorem qb4 {w:World} {B e g n cap:Nat} {xs:List Value} (h:w.ownsRow B e 1 (.slice (some ⟨g,0,none⟩) n cap) n xs) (i:Nat) (u:Value):(w.setCell ⟨g,i,none⟩ u).ownsRow B e 1 (.slice (some ⟨g,0,none⟩) n cap) n (xs.set i u):=by
 refine⟨by rw[List.length_set];exact h.1,.inr ?_⟩;rcases h.2 with ⟨h0,_⟩|⟨g',cap',cur,hv,hb,hg,h1,h2,h3,h4⟩
 ·cases h0
 ·cases hv;refine⟨g,cap,cur.setIfInBounds i u,rfl,hb,?_,h1,h2,by simp[h3],?_⟩
  ·simp[World.setCell,Array.getElem?_modify,hg]
  ·rw[Array.toList_setIfInBounds,List.take_set,h4]
theorem qbK {w:World} {B e g n cap:Nat} {xs:List Value} (h:w.ownsRow B e 1 (.slice (some ⟨g,0,none⟩) n cap) n xs) (i:Nat):w.frozen? ⟨g,i,none⟩=false:=by
 rcases h.2 with ⟨h0,_⟩|⟨g',cap',cur,hv,_,hg,_⟩
 ·cases h0
 ·cases hv;unfold World.frozen?;simp only[hg];simp
def bg (n:Nat):List Nat:=if h:n=0 then [] else n%65536::bg (n/65536)
termination_by n
decreasing_by omega
def bv:List Nat→Nat| []=>0|x::t=>x+65536*bv t
def Dg (l:List Nat):Prop:= ∀x∈l,x<65536
theorem qa8:bg 0=[]:=by rw[bg];rfl
theorem qbZ (n:Nat) (h:0<n):bg n=n%65536::bg (n/65536):=by rw[bg,dif_neg (by omega)]
theorem qle (n:Nat):Dg (bg n):=by
 induction n using Nat.strongRecOn with
 |_ n ih=>
  by_cases h:n=0
  ·subst h;rw[qa8];intro x hx;cases hx
  ·rw[qbZ n (by omega)];intro x hx;rw[List.mem_cons] at hx;rcases hx with rfl|hx
   ·omega
   ·exact ih (n/65536) (by omega) x hx
theorem qlw (n:Nat):bv (bg n)=n:=by
 induction n using Nat.strongRecOn with
 |_ n ih=>
  by_cases h:n=0
  ·subst h;rw[qa8];rfl
  ·rw[qbZ n (by omega)];show n%65536+65536*bv (bg (n/65536))=n;rw[ih (n/65536) (by omega)];omega
theorem qgJ (a b:List Nat):bv (a++b)=bv a+65536^a.length*bv b:=by
 induction a with
 |nil=>simp[bv]
 |cons x t ih=>
  show x+65536*bv (t++b)=x+65536*bv t+65536^(t.length+1)*bv b;rw[ih,Nat.mul_add,Nat.pow_succ,←Nat.mul_assoc,Nat.mul_comm 65536 (65536^t.length)];omega
theorem qtz (l:List Nat) (h:Dg l):bv l<65536^l.length:=by
 induction l with
 |nil=>exact Nat.one_pos
 |cons x t ih=>
  have h1:=h x (List.mem_cons_self ..);have h2:=ih (fun y hy=>h y (List.mem_cons_of_mem _ hy));show x+65536*bv t<65536^(t.length+1);rw[Nat.pow_succ];omega
def trN (l:List Nat):List Nat:=bg (bv l)
theorem qps (x y:Nat) (hx:x<65536) (h:0<x+65536*y):bg (x+65536*y)=x::bg y:=by
 rw[qbZ _ h]
 congr 1
 ·omega
 ·congr 1;omega
theorem qfr (l:List Nat):Dg l→(l=[]∨ ∃m x,l=m++[x]∧x≠0)→trN l=l:=by
 induction l with
 |nil=>intro _ _;unfold trN bv;exact qa8
 |cons x t ih=>
  intro hd h;obtain⟨m,y,e,hy⟩:=h.resolve_left (by simp);have h1:=hd x (List.mem_cons_self ..);have h2:Dg t:=fun z hz=>hd z (List.mem_cons_of_mem _ hz)
  have h3:t=[]∨ ∃m x,t=m++[x]∧x≠0:=by
   cases m with
   |nil=>left;simp at e;exact e.2
   |cons a b=>right;exact⟨b,y,by simp at e;exact e.2,hy⟩
  have h4:=ih h2 h3;unfold trN at*;show bg (x+65536*bv t)=x::t
  have hpos:0<x+65536*bv t:=by
   cases m with
   |nil=>simp at e;obtain⟨rfl,rfl⟩:=e;simp[bv];omega
   |cons a b=>
    have:bv t≠0:=by
     intro e0;rw[e0,qa8] at h4;subst h4;simp at e
    omega
  rw[qps _ _ h1 hpos,h4]
theorem qic (m:List Nat):trN (m++[0])=trN m:=by
 unfold trN;rw[qgJ];simp[bv]
theorem qlH (l:List Nat) (h:Dg l):trN l=l.take (trN l).length:=by
 have key: ∀n (l:List Nat),l.length=n→Dg l→ ∃k,k≤l.length∧trN l=l.take k∧(trN l).length=k:=by
  intro n
  induction n with
  |zero=>intro l hl _;rw[List.eq_nil_of_length_eq_zero hl];exact⟨0,Nat.le_refl _,by unfold trN bv;exact qa8,by unfold trN bv;rw[qa8];rfl⟩
  |succ n ih=>
   intro l hl hd;have hne:l≠[]:=fun e=>by rw[e] at hl;cases hl
   have e:=(List.dropLast_concat_getLast hne).symm
   by_cases h0:l.getLast hne=0
   ·rw[h0] at e;have hd':Dg l.dropLast:=fun x hx=>hd x (List.dropLast_subset _ hx)
    obtain⟨k,k1,k2,k3⟩:=ih l.dropLast (by rw[List.length_dropLast];omega) hd';rw[List.length_dropLast] at k1
    have e2:trN l=trN l.dropLast:=by conv=>lhs;rw[e]
                                     exact qic _
    refine⟨k,by omega,?_,by rw[e2];exact k3⟩;rw[e2,k2,List.dropLast_eq_take,List.take_take,Nat.min_eq_left (by omega)]
   ·refine⟨l.length,Nat.le_refl _,?_,?_⟩
    ·rw[List.take_length];exact qfr l hd (.inr ⟨_,_,e,h0⟩)
    ·rw[qfr l hd (.inr ⟨_,_,e,h0⟩)]
 obtain⟨k,_,k2,k3⟩:=key _ l rfl h;rw[k3];exact k2
theorem qpf (l:List Nat) (h:Dg l):(trN l).length≤l.length:=by
 have:=congrArg List.length (qlH l h);rw[List.length_take] at this;omega
def encI (x:Nat):Value:= .int .i64 (x:Int)
structure qcM (w:World) (a:Option Addr) (c:Nat) (l:List Nat):Prop where
 row:Row w (.slice a l.length c) (l.map encI)
 at': ∃b off,∀i,i<l.length→a=some ⟨b,off,none⟩∧b<w.heap.size∧w.cell? ⟨b,off+i,none⟩=some (.int .i64 ((l.getD i 0:Nat):Int))
 cap:l.length≤c
theorem qcM.of {w:World} {a:Option Addr} {c:Nat} {l:List Nat} (h:Row w (.slice a l.length c) (l.map encI)):qcM w a c l:=by
 refine⟨h,?_,?_⟩
 ·rcases h with ⟨a',c',_,h1,h2⟩|⟨b,off,cap,h1,h2,h3,h4,h5⟩
  ·refine⟨0,0,fun i hi=>?_⟩;have:l=[]:=by simpa using h2
   rw[this] at hi;cases hi
  ·refine⟨b,off,fun i hi=>?_⟩;obtain⟨rfl,_,_⟩:=(Value.slice.injEq ..).mp h1;refine⟨rfl,h2,?_⟩;rw[h5 i (by rw[List.length_map];omega),List.getElem_map,List.getD_eq_getElem?_getD,List.getElem?_eq_getElem hi];rfl
 ·rcases h with ⟨a',c',_,h1,h2⟩|⟨b,off,cap,h1,h2,h3,h4,h5⟩
  ·have:l=[]:=by simpa using h2
   rw[this];exact Nat.zero_le _
  ·obtain⟨_,_,rfl⟩:=(Value.slice.injEq ..).mp h1;rw[List.length_map] at h3;exact h3
theorem qcM.on {w W:World} {a:Option Addr} {c:Nat} {l:List Nat} (h:qcM w a c l) (hb:Below w.heap.size w W):qcM W a c l:=qcM.of (h.row.on hb)
theorem qcY (l:List Nat) (k:Nat) (h:k<l.length):l.take (k+1)=l.take k++[l.getD k 0]:=by
 rw[List.take_add_one,List.getElem?_eq_getElem h,List.getD_eq_getElem?_getD,List.getElem?_eq_getElem h];rfl
theorem qmm (a:Option Addr) (c:Nat) (l:List Nat) (hd:Dg l) (hl:l.length≤100000) (w:World) (h:qcM w a c l):
 Calls Tryz.prog 250 #[.slice a l.length c] w fun e w'=>e= .returned (.slice a (trN l).length c)∧w=w':=by
 obtain⟨b,off,hat⟩:=h.at';have hcap:=h.cap;obtain⟨n,hn⟩: ∃n,n=l.length:=⟨_,rfl⟩;obtain⟨t,ht⟩: ∃t,Hid (t=(trN l).length):=⟨_,Lh rfl⟩;rw[←ht.out];replace hat:=Lh hat;have hdh:=Lh hd;have hnh:=Lh hn;rw[←hn] at hcap hl⊢;clear h hn hd;go_enter Tryz.func250,Tryz.ntmps250;go_wp2_with fail;go_loopg [0] (n+1) (fun gk s0 wx=> ∃k:Nat,k<gk∧k≤n∧s0= .slice a k c∧Hid (trN (l.take k)=trN l)∧w=wx)
 case atStart=>exact⟨n,by omega,by omega,rfl,Lh (by rw[hnh.out,List.take_length]),rfl⟩
 case round=>
  obtain⟨k,hg,hk,rfl,hT,rfl⟩:=hrel;have hdk:Hid (Dg (l.take k)):=Lh (fun x hx=>hdh.out x (List.mem_of_mem_take hx))
  by_cases h0:k=0
  ·subst h0;have e:Hid (t=0):=Lh (by rw[ht.out,←hT.out];show(bg 0).length=0;rw[qa8];rfl);clear hat hT hdk;go_wp2_with fail;go_ret;exact⟨by rw[e.out];rfl,rfl⟩
  ·obtain⟨j,rfl⟩: ∃j,k=j+1:=⟨k - 1,by omega⟩;obtain⟨rfl,hbw,hcell⟩:=hat.out j (by rw[←hnh.out];omega);have u1:decide ((0:Int)<((j+1:Nat):Int))=true:=dT (by omega);have hsn:=qcY l j (by rw[←hnh.out];omega)
   by_cases hz:l.getD j 0=0
   ·rw[hz] at hcell hsn;have hT2:Hid (trN (l.take j)=trN l):=Lh (by rw[←hT.out,hsn,qic]);clear hT hdk hsn hz;go_wp2_with fail;go_roundg (gk - 1)
    case measure=>omega
    case rel=>exact⟨j,by omega,by omega,rfl,hT2,rfl⟩
   ·obtain⟨x,hx⟩: ∃x,Hid (x=l.getD j 0):=⟨_,Lh rfl⟩
    have e:Hid (t=j+1):=Lh (by
     rw[ht.out,←hT.out,qfr _ hdk.out (.inr ⟨_,_,hsn,hz⟩),List.length_take,←hnh.out];omega)
    rw[←hx.out] at hcell hz;have u2:((x:Int)==0)=false:=beq_eq_false_iff_ne.2 (by omega);clear hT hdk hsn;go_wp2_with fail;go_ret;exact⟨by rw[e.out];rfl,rfl⟩
theorem info3:(Tryz.prog.info? 3).map (fun i=>(i.zero,i.size,i.bytes))=some (some (.int .i64 0),1,8):=by kernel_rfl
def OB (w:World) (B:Nat) (v:Value) (l:List Nat):Prop:=w.ownsRow B 3 1 v l.length (l.map encI)
theorem OB.shape {w:World} {B:Nat} {v:Value} {l:List Nat} (h:OB w B v l): ∃a c,v= .slice a l.length c:=qe1 h
theorem OB.nrow {w:World} {B:Nat} {a:Option Addr} {c:Nat} {l:List Nat} (h:OB w B (.slice a l.length c) l):qcM w a c l:=by
 refine qcM.of ?_;rcases h.2 with ⟨h1,h2⟩|⟨g,cap,cur,h1,h2,h3,h4,h5,h6,h7⟩
 ·obtain⟨rfl,_,rfl⟩:=(Value.slice.injEq ..).mp h1;have:l=[]:=List.eq_nil_of_length_eq_zero h2;subst this;exact .inl ⟨none,0,fun _=>rfl,rfl,rfl⟩
 ·obtain⟨rfl,_,rfl⟩:=(Value.slice.injEq ..).mp h1;refine .inr ⟨g,0,c,by rw[List.length_map],(Array.getElem?_eq_some_iff.1 h3).1,by rw[List.length_map];exact h4,h5,fun i hi=>?_⟩;rw[Nat.zero_add,Lib.cell_of_heap h3];have h8:=congrArg (·[i]?) h7;simp only[List.getElem?_take] at h8;rw[List.length_map] at hi;have h9:(List.map encI l)[i]?=some ((List.map encI l)[i]'(by rw[List.length_map];exact hi)):=List.getElem?_eq_getElem _;rw[if_pos (by omega),h9] at h8;simpa using h8
theorem OB.cut {w:World} {B:Nat} {a:Option Addr} {c:Nat} {l:List Nat} (h:OB w B (.slice a l.length c) l) (m:List Nat) (k:Nat) (hm:m=l.take k) (hk:m.length=k) (hkl:k≤l.length):OB w B (.slice a k c) m:=by
 unfold OB;rw[hk];refine⟨by rw[List.length_map,hk,Nat.mul_one],?_⟩;rcases h.2 with ⟨h1,h2⟩|⟨g,cap,cur,h1,h2,h3,h4,h5,h6,h7⟩
 ·left;obtain⟨rfl,_,rfl⟩:=(Value.slice.injEq ..).mp h1;exact⟨by rw[show k=0 by omega],by omega⟩
 ·right;obtain⟨rfl,_,rfl⟩:=(Value.slice.injEq ..).mp h1;refine⟨g,c,cur,rfl,h2,h3,by omega,h5,h6,?_⟩;rw[Nat.mul_one] at h7⊢;rw[hm,List.map_take,←h7,List.take_take,Nat.min_eq_left hkl]
theorem qfk (a:Option Addr) (c B:Nat) (l:List Nat) (hd:Dg l) (hl:l.length≤100000) (w:World) (h:OB w B (.slice a l.length c) l):
 Calls Tryz.prog 250 #[.slice a l.length c] w fun e w'=> ∃v,e= .returned v∧OB w B v (bg (bv l))∧w=w':=by
 refine(qmm a c l hd hl w h.nrow).mono ?_;rintro e w' ⟨rfl,rfl⟩;exact⟨_,rfl,h.cut _ _ (qlH l hd) rfl (qpf l hd),rfl⟩
theorem qeW (j:Nat): ∀x,x<65536^j→(bg x).length≤j:=by
 induction j with
 |zero=>intro x h;rw[Nat.pow_zero] at h;rw[show x=0 by omega,qa8];exact Nat.le_refl _
 |succ j ih=>
  intro x h
  by_cases h0:x=0
  ·subst h0;rw[qa8];exact Nat.zero_le _
  ·rw[qbZ x (by omega),List.length_cons];have:x/65536<65536^j:=by rw[Nat.div_lt_iff_lt_mul (by decide)];rw[Nat.pow_succ] at h;exact h
   have:=ih _ this;omega
theorem qi5 (bo T bt i m x k m0 d q:Nat) (h:bo+T*m=bt*k+m0) (hq:m+x*k=d+65536*q) (hi:T=65536^i):bo+T*d+65536^(i+1)*q=(bt+T*x)*k+m0:=by
 rw[Nat.pow_succ,←hi,Nat.add_mul,Nat.mul_assoc T x k,Nat.mul_assoc T 65536 q];have:=congrArg (T* ·) hq;simp only[Nat.mul_add] at this;omega
theorem qgw (a:Option Addr) (c x k m0:Nat) (hk:k<65536) (hm0:m0<65536) (hx:(bg x).length≤10000) (w:World) (h:qcM w a c (bg x)):
 Calls Tryz.prog 246 #[.slice a (bg x).length c,.int .i64 k,.int .i64 m0] w fun e w'=> ∃v,e= .returned v∧OB w' w.heap.size v (bg (x*k+m0))∧Below w.heap.size w w':=by
 have hbd:=Lh (qle x);have hbv:=Lh (qlw x);obtain⟨l,hl⟩: ∃l,l=bg x:=⟨_,rfl⟩;rw[←hl] at hbd hbv hx h⊢;clear hl;obtain⟨b,off,hat⟩:=h.at';replace hat:=Lh hat;obtain⟨n,hn⟩: ∃n,n=l.length:=⟨_,rfl⟩;obtain⟨i3,hi3,hz0,hz1,hz2⟩:=info_parts info3;obtain⟨wm,hmk,hown,hgr⟩:=run_make_own (P:=Tryz.prog) w w.heap.size 251 3 i3 (.int .i64 0) 1 Tryz.underlying251 hi3 hz0 hz1 .i64 .i64 (n+2) (by rw[hz2];omega) (by unfold maxLen;omega) (Nat.le_refl _);rw[show(((n+2:Nat)):Int)=(n:Int)+2 from rfl] at hmk;have hwb:Hid (Below w.heap.size w wm):=Lh ((Below.refl w.heap.size w).grown hgr (Nat.le_refl _) (fun _ e=>by cases e));have I0:Hid (OB wm w.heap.size (.slice (some ⟨w.heap.size,0,none⟩) 0 (n+2)) []):=Lh hown;rw[←hn] at hx⊢;have hnh:=Lh hn;clear h hn hown hgr hi3 hz0 hz1 hz2;go_enter Tryz.func246,Tryz.ntmps246;go_upto_block 0 with (fail)
 go_cut [2,7] (fun s2 s7 wx=> ∃m:Nat,s2= .int .i64 (m:Int)∧m<65536∧ ∃o:List Nat,Hid (OB wx w.heap.size s7 o)∧Hid (Dg o)∧Hid (bv o+65536^o.length*m=x*k+m0)∧o.length≤n∧Hid (Below w.heap.size w wx))
 case first=>
  go_wp2_with fail;go_loopg [2,7,8] (n+1) (fun gk s2 s7 s8 wx=> ∃(i m:Nat) (o:List Nat),n - i<gk∧i≤n∧s8= .int .i64 (i:Int)∧s2= .int .i64 (m:Int)∧m<65536∧o.length=i∧Hid (OB wx w.heap.size s7 o)∧Hid (Dg o)∧Hid (bv o+65536^i*m=bv (l.take i)*k+m0)∧Hid (Below w.heap.size w wx))
  case atStart=>exact⟨0,m0,[],by omega,by omega,rfl,rfl,hm0,rfl,I0,Lh (fun y hy=>by cases hy),Lh (by simp[bv]),hwb⟩
  case round=>
   clear I0 hwb hmk;obtain⟨i,m,o,hg,hi,rfl,rfl,hm,hoi,I,hD,hV,B⟩:=hrel
   by_cases hlt:i<n
   ·have t1:decide ((i:Int)<(n:Int))=true:=dT (by omega);have t1':decide (i<n)=true:=dT hlt;obtain⟨rfl,hbw,hcell⟩:=hat.out i (by rw[←hnh.out];exact hlt);have hc:wr.cell? ⟨b,off+i,none⟩=some (.int .i64 ((l.getD i 0:Nat):Int)):=by rw[B.out.cell hbw];exact hcell
    have hBs:=B.out.size;obtain⟨y,hy⟩: ∃y,Hid (y=l.getD i 0):=⟨_,Lh rfl⟩;rw[←hy.out] at hc
    have hy6:y<65536:=by
     rw[hy.out,List.getD_eq_getElem?_getD,List.getElem?_eq_getElem (by rw[←hnh.out];exact hlt)];exact hbd.out _ (List.getElem_mem _)
    obtain⟨p,hp⟩: ∃p,y*k=p:=⟨_,rfl⟩;have hpb:p≤4294836225:=by rw[←hp];exact Nat.mul_le_mul (show y≤65535 by omega) (show k≤65535 by omega)
    have hpI:(y:Int)*(k:Int)=(p:Int):=by rw[←hp];rfl
    obtain⟨a7,c7,rfl⟩:=I.out.shape
    have hV2:Hid (bv (o++[(m+p)%65536])+65536^(i+1)*((m+p)/65536)=bv (l.take (i+1))*k+m0):=Lh (by
     rw[qcY l i (by rw[←hnh.out];exact hlt),qgJ,qgJ,←hy.out,hoi,List.length_take,←hnh.out,Nat.min_eq_left hi];have e1: ∀z,bv [z]=z:=fun z=>by simp[bv]
     rw[e1,e1]
     exact qi5 _ _ _ _ m y k m0 _ _ hV.out (by rw[hp];omega) rfl)
    have hD2:Hid (Dg (o++[(m+p)%65536])):=Lh (fun z hz=>by
     rw[List.mem_append,List.mem_singleton] at hz;rcases hz with hz|rfl
     ·exact hD.out z hz
     ·omega)
    have hp2:=Lh hp;clear hV hD hcell hbw hp;go_wp2_with (at_builtin;go_must (refine qb6 rfl (.tmp 27) (.tmp 30) 251 rfl (u:= .int .i64 (((m+p)%65536:Nat):Int)) w.heap.size (.int .i64 0) 8 Tryz.underlying251 info3 rfl _ o.length _ rfl rfl I.out rfl (by omega) (by omega) hBs ?_);rintro v2 w3 hown2' hb2 hs2 _ hv3;have hown2:=Lh hown2';clear hown2');obtain⟨g4,cap4,rfl⟩:=hv3;have I2:Hid (OB w3 w.heap.size (.slice (some ⟨g4,0,none⟩) (o.length+1) cap4) (o++[(m+p)%65536])):=Lh (by unfold OB;rw[List.length_append,List.map_append];exact hown2.out);have B2:Hid (Below w.heap.size w w3):=Lh (B.out.trans hb2);clear I hown2 B hb2 hs2;go_wp2_with fail;go_roundg (gk - 1)
    case measure=>omega
    case rel=>exact⟨i+1,(m+p)/65536,o++[(m+p)%65536],by omega,by omega,by go_num,by go_num,by omega,by simp;omega,I2,hD2,hV2,B2⟩
   ·obtain rfl:i=n:=by omega
    have t1:decide ((i:Int)<(i:Int))=false:=dF (by omega)
    have hV2:Hid (bv o+65536^o.length*m=x*k+m0):=Lh (by
     have:=hV.out;rw[hnh.out,List.take_length,hbv.out,←hnh.out] at this
     rw[hoi];exact this)
    clear hV;go_wp2_with fail;go_meet;exact⟨m,rfl,hm,o,I,hD,hV2,by omega,B⟩
 case rest=>
  obtain⟨m,rfl,hm,o,I,hD,hV,hol,B⟩:=hcut;clear I0 hwb hmk hat hbd hbv;go_upto_block 2 with (fail)
  go_cut [7] (fun s7 wx=> ∃o:List Nat,Hid (OB wx w.heap.size s7 o)∧Hid (Dg o)∧Hid (bv o=x*k+m0)∧o.length≤n+70000∧Hid (Below w.heap.size w wx))
  case first=>
   go_wp2_with fail;go_loopg [2,7] 65537 (fun gk s2 s7 wx=> ∃(m:Nat) (o:List Nat),m<gk∧s2= .int .i64 (m:Int)∧m<65536∧o.length+m≤n+70000∧Hid (OB wx w.heap.size s7 o)∧Hid (Dg o)∧Hid (bv o+65536^o.length*m=x*k+m0)∧Hid (Below w.heap.size w wx))
   case atStart=>exact⟨m,o,by omega,rfl,hm,by omega,I,hD,hV,B⟩
   case round=>
    clear I hD hV hol B hm;clear m o;obtain⟨m,o,hg,rfl,hm,hom,I,hD,hV,B⟩:=hrel
    by_cases h0:0<m
    ·have t1:decide ((0:Int)<(m:Int))=true:=dT (by omega);have t1':decide (0<m)=true:=dT h0;have hBs:=B.out.size;obtain⟨a7,c7,rfl⟩:=I.out.shape
     have hV2:Hid (bv (o++[m%65536])+65536^(o++[m%65536]).length*(m/65536)=x*k+m0):=Lh (by
      have e1:bv [m%65536]=m%65536:=by simp[bv]
      rw[qgJ,e1,←hV.out,show m/65536=0 by omega,show m%65536=m by omega];omega)
     have hD2:Hid (Dg (o++[m%65536])):=Lh (fun z hz=>by
      rw[List.mem_append,List.mem_singleton] at hz;rcases hz with hz|rfl
      ·exact hD.out z hz
      ·omega)
     clear hV hD;go_wp2_with (at_builtin;go_must (refine qb6 rfl (.tmp 36) (.tmp 39) 251 rfl (u:= .int .i64 ((m%65536:Nat):Int)) w.heap.size (.int .i64 0) 8 Tryz.underlying251 info3 rfl _ o.length _ rfl rfl I.out rfl (by omega) (by omega) hBs ?_);rintro v2 w3 hown2' hb2 hs2 _ hv3;have hown2:=Lh hown2';clear hown2');obtain⟨g4,cap4,rfl⟩:=hv3;have I2:Hid (OB w3 w.heap.size (.slice (some ⟨g4,0,none⟩) (o.length+1) cap4) (o++[m%65536])):=Lh (by unfold OB;rw[List.length_append,List.map_append];exact hown2.out);have B2:Hid (Below w.heap.size w w3):=Lh (B.out.trans hb2);clear I hown2 B hb2 hs2;go_wp2_with fail;go_roundg (gk - 1)
     case measure=>omega
     case rel=>exact⟨m/65536,o++[m%65536],by omega,by go_num,by omega,by simp;omega,I2,hD2,hV2,B2⟩
    ·obtain rfl:m=0:=by omega
     have hV2:Hid (bv o=x*k+m0):=Lh (by have:=hV.out;omega);clear hV;go_wp2_with fail;go_meet;exact⟨o,I,hD,hV2,by omega,B⟩
  case rest=>
   obtain⟨o,I,hD,hV,hol,B⟩:=hcut;obtain⟨a7,c7,rfl⟩:=I.out.shape;have ct:=qfk a7 c7 w.heap.size o hD.out (by omega) _ I.out;rw[hV.out] at ct;replace ct:=Lh ct;clear hV hD I;go_wp2_with fail;refine ct.out.mono ?_;rintro e w4 ⟨v,rfl,hO,rfl⟩;have hOh:=Lh hO;clear ct hO;go_wp2_with fail;go_ret;exact⟨_,rfl,hOh.out,B.out⟩
def qrv (x:Nat) (w:World) (e:Ending) (w':World):Prop:= ∃a c,e= .returned (.slice a (bg x).length c)∧qcM w' a c (bg x)∧Below w.heap.size w w'
theorem qf4 (n:Nat) (hn:n<18446744073709551616) (w:World):Calls Tryz.prog 204 #[.int .u64 n] w (qrv n w):=by
 obtain⟨L,hL⟩: ∃L,Hid (L=bg n):=⟨_,Lh rfl⟩;have hLl:Hid (L.length≤4):=Lh (by rw[hL.out];exact qeW 4 n hn);unfold qrv;rw[←hL.out];have I0:Hid (OB w w.heap.size (.slice none 0 0) []):=Lh ⟨rfl,.inl ⟨rfl,rfl⟩⟩;go_enter Tryz.func204,Tryz.ntmps204;go_wp2_with fail;go_loopg [0,3] (n+1) (fun gk s0 s3 wx=> ∃(m:Nat) (o:List Nat),m<gk∧m≤n∧s0= .int .u64 (m:Int)∧Hid (OB wx w.heap.size s3 o)∧Hid (o++bg m=L)∧o.length≤4∧Hid (Below w.heap.size w wx))
 case atStart=>exact⟨n,[],by omega,by omega,rfl,I0,Lh hL.out.symm,by simp,Lh (Below.refl _ _)⟩
 case round=>
  clear I0;obtain⟨m,o,hg,hmn,rfl,I,hV,hol,B⟩:=hrel;obtain⟨a7,c7,rfl⟩:=I.out.shape
  by_cases h0:0<m
  ·have t1:decide ((0:Int)<(m:Int))=true:=dT (by omega);have t1':decide (0<m)=true:=dT h0;have hBs:=B.out.size;have hV2:Hid ((o++[m%65536])++bg (m/65536)=L):=Lh (by rw[←hV.out,qbZ m h0,List.append_assoc];rfl)
   have hol2:(o++[m%65536]).length≤4:=by
    have:=congrArg List.length hV2.out;rw[List.length_append] at this;have:=hLl.out;omega
   clear hV;go_wp2_with (at_builtin;go_must (refine qb6 rfl (.tmp 6) (.tmp 10) 251 rfl (u:= .int .i64 ((m%65536:Nat):Int)) w.heap.size (.int .i64 0) 8 Tryz.underlying251 info3 rfl _ o.length _ rfl rfl I.out rfl (by omega) (by omega) hBs ?_);rintro v2 w3 hown2' hb2 hs2 _ hv3;have hown2:=Lh hown2';clear hown2');obtain⟨g4,cap4,rfl⟩:=hv3;have I2:Hid (OB w3 w.heap.size (.slice (some ⟨g4,0,none⟩) (o.length+1) cap4) (o++[m%65536])):=Lh (by unfold OB;rw[List.length_append,List.map_append];exact hown2.out);have B2:Hid (Below w.heap.size w w3):=Lh (B.out.trans hb2);clear I hown2 B hb2 hs2;go_wp2_with fail;go_roundg (gk - 1)
   case measure=>omega
   case rel=>exact⟨m/65536,o++[m%65536],by omega,by omega,by go_num,I2,hV2,hol2,B2⟩
  ·obtain rfl:m=0:=by omega
   have ho:o=L:=by have:=hV.out;rw[qa8,List.append_nil] at this;exact this
   subst ho;clear hV;go_wp2_with fail;go_ret;exact⟨_,_,rfl,I.out.nrow,B.out⟩
theorem qkP (k n:Nat) (hk:k<65536) (hn:n≤2000) (w:World):Calls Tryz.prog 206 #[.int .i64 k,.int .i64 n] w (qrv (k^n) w):=by
 have I0:Hid (OB (w.alloc (.cells #[.int .i64 1] 3)) w.heap.size (.slice (some ⟨w.heap.size,0,none⟩) 1 1) (bg 1)):=Lh (by
  have e:bg 1=[1]:=by rw[qbZ 1 (by decide),show 1/65536=0 from rfl,qa8]
  unfold OB;rw[e]
  exact World.ownsRow_lit w #[.int .i64 1] 1 (Nat.le_refl _) (by unfold maxLen;omega) rfl)
 go_enter Tryz.func206,Tryz.ntmps206;go_upto_block 0 with (fail)
 have N0:Hid (qcM (w.alloc (.cells #[.int .i64 1] 3)) (some ⟨w.heap.size,0,none⟩) 1 (bg (k^0))):=Lh (by
  rw[Nat.pow_zero];refine OB.nrow (B:=w.heap.size) ?_;have e:bg 1=[1]:=by rw[qbZ 1 (by decide),show 1/65536=0 from rfl,qa8]
  have:=I0.out;rw[e] at this⊢
  exact this)
 have hl0:1=(bg (k^0)).length:=by rw[Nat.pow_zero,qbZ 1 (by decide),show 1/65536=0 from rfl,qa8];rfl
 have B0:Hid (Below w.heap.size w (w.alloc (.cells #[.int .i64 1] 3))):=Lh ((Below.refl _ _).alloc (Nat.le_refl _) _);generalize w.alloc (.cells #[.int .i64 1] 3)=W0 at N0 B0⊢;clear I0;go_cut [5] (fun s5 wx=> ∃a c,s5= .slice a (bg (k^n)).length c∧Hid (qcM wx a c (bg (k^n)))∧Hid (Below w.heap.size w wx))
 case first=>
  go_wp2_with fail;go_loopg [5,6] (n+1) (fun gk s5 s6 wx=> ∃(i L:Nat) (a:Option Addr) (c:Nat),n - i<gk∧i≤n∧s6= .int .i64 (i:Int)∧s5= .slice a L c∧Hid (L=(bg (k^i)).length)∧Hid (qcM wx a c (bg (k^i)))∧Hid (Below w.heap.size w wx))
  case atStart=>exact⟨0,1,_,_,by omega,by omega,rfl,rfl,Lh hl0,N0,B0⟩
  case round=>
   clear N0 B0 hl0;obtain⟨i,L,a,c,hg,hi,rfl,rfl,hL,hN,B⟩:=hrel
   by_cases hlt:i<n
   ·have t1:decide ((i:Int)<(n:Int))=true:=dT (by omega);have t1':decide (i<n)=true:=dT hlt
    have hlen:(bg (k^i)).length≤10000:=by
     have h1:k^i<65536^(i+1):=Nat.lt_of_le_of_lt (Nat.pow_le_pow_left (show k≤65536 by omega) i) (Nat.pow_lt_pow_right (by decide) (by omega));have:=qeW (i+1) _ h1;omega
    have ct:=qgw a c (k^i) k 0 hk (by decide) hlen wr hN.out;rw[←hL.out,show k^i*k+0=k^(i+1)from rfl] at ct;replace ct:=Lh ct;clear hN hL hlen;go_wp2_with fail;refine ct.out.mono ?_;rintro e w4 ⟨v,rfl,hO,hb⟩;obtain⟨a2,c2,rfl⟩:=hO.shape;have hN2:=Lh hO.nrow;have B2:=Lh (B.out.trans (hb.mono B.out.size));obtain⟨L2,hL2⟩: ∃L2,Hid (L2=(bg (k^(i+1))).length):=⟨_,Lh rfl⟩;rw[←hL2.out];clear ct hO hb B;go_wp2_with fail;go_roundg (gk - 1)
    case measure=>omega
    case rel=>exact⟨i+1,L2,a2,c2,by omega,by omega,by go_num,rfl,hL2,hN2,B2⟩
   ·obtain rfl:i=n:=by omega
    have t1:decide ((i:Int)<(i:Int))=false:=dF (by omega);go_wp2_with fail;go_meet;exact⟨a,c,by rw[hL.out],hN,B⟩
 case rest=>
  obtain⟨a,c,rfl,hN,B⟩:=hcut;clear N0 B0 hl0;go_wp2_with fail;go_ret;exact⟨_,_,rfl,hN.out,B.out⟩
end Go.Proofs.YtdeimnnpcfncpaaGreatDoor
