/- Parts of the proof: LC LP1 LR2 LQ1. -/
import GoSem.PinnedTables
import Derived.Deep.QuietTactic
import Derived.Outline
import Derived.RangeFuncBox
import Derived.RangeFuncWrites
import Derived.Test.YtdeimnnpcfncpaaGreatDoorCY01
import Derived.Test.YtdeimnnpcfncpaaGreatDoorCY04
set_option linter.unusedVariables false
set_option linter.unusedSimpArgs false
set_option maxRecDepth 100000
set_option maxHeartbeats 64000000
section
namespace Go.Proofs.YtdeimnnpcfncpaaGreatDoor
open Go Go.RowKit
def sb (s:ByteArray) (i:Nat):Nat:=(bt s i).toNat
def ldl (k:Nat):Nat:=(Pinned.cheatRows.getD k (0,[])).1
def lcl (k:Nat):List UInt8:=(Pinned.cheatRows.getD k (0,[])).2
def lcs (k:Nat):ByteArray:=⟨(lcl k).toArray⟩
def pbL:List Nat:=[1,3,6,9,13,16,19,23,26]
def ptb (k:Nat):Nat:=pbL.getD k 0
def qtz (k:Nat):Bool:=
 (List.range (lcl k).length).all (fun i=>decide (48≤((lcl k).getD i 0).toNat)&&decide (((lcl k).getD i 0).toNat≤57))&&
 decide (num (fun i=>((lcl k).getD i 0).toNat) (lcl k).length=5^k)&&decide ((lcl k).length+ldl k=k+1)&&decide (1≤ldl k)&&decide (10^(ldl k - 1)≤2^k)&&decide (2^k<10^ldl k)&&
 decide (48<((lcl k).getD ((lcl k).length - 1) 0).toNat)&&decide ((lcl k).length≤100)
theorem qrW:((List.range 61).drop 1).all qtz=true:=by decide+kernel
theorem qlC (k:Nat):(lcs k).size=(lcl k).length:=by unfold lcs ByteArray.size;simp
theorem qs6 (k:Nat) (h1:1≤k) (h2:k≤60):qdm (sb (lcs k)) (lcs k).size∧num (sb (lcs k)) (lcs k).size=5^k∧(lcs k).size+ldl k=k+1∧1≤ldl k∧10^(ldl k - 1)≤2^k∧2^k<10^ldl k∧48<sb (lcs k) ((lcs k).size - 1)∧(lcs k).size≤100:=by
 have h:=List.all_eq_true.1 qrW k (by
  rw[List.mem_iff_getElem?]
  exact⟨k - 1,by rw[List.getElem?_drop,List.getElem?_range (by omega)];congr 1;omega⟩)
 unfold qtz at h;simp only[Bool.and_eq_true,decide_eq_true_eq,List.all_eq_true,List.mem_range] at h;obtain⟨⟨⟨⟨⟨⟨⟨a,b⟩,c⟩,d⟩,e⟩,f⟩,g⟩,i⟩:=h;rw[qlC];exact⟨fun j hj=>a j hj,b,c,d,e,f,g,i⟩
def PtP (w:World):Prop:= ∃b off cap,w.cell? ⟨13,0,none⟩=some (.slice (some ⟨b,off,none⟩) 9 cap)∧b<w.heap.size∧ ∀k,k<9→w.cell? ⟨b,off+k,none⟩=some (.int .i64 (ptb k:Int))
def LcP (w:World):Prop:= ∃b off cap,w.cell? ⟨16,0,none⟩=some (.slice (some ⟨b,off,none⟩) 61 cap)∧b<w.heap.size∧ ∀k,k<61→w.cell? ⟨b,off+k*2,none⟩=some (.int .i64 (ldl k:Int))∧w.cell? ⟨b,off+k*2+1,none⟩=some (.string (lcs k))
theorem qfc {w:World} {p:Addr} {v:Value} (h:w.cell? p=some v):p.block<w.heap.size:=by
 rcases Nat.lt_or_ge p.block w.heap.size with h'|h'
 ·exact h'
 ·unfold World.cell? at h;rw[Array.getElem?_eq_none h'] at h;cases h
theorem PtP.on {w W:World} {B:Nat} (h:PtP w) (hB:w.heap.size≤B) (hb:Below B w W):PtP W:=by
 obtain⟨b,off,cap,q1,q2,q3⟩:=h;have h13:13<w.heap.size:=qfc q1;exact⟨b,off,cap,by rw[hb.cell (p:=⟨13,0,none⟩) (Nat.lt_of_lt_of_le h13 hB)];exact q1,Nat.lt_of_lt_of_le q2 hb.size,fun k hk=>by rw[hb.cell (p:=⟨b,off+k,none⟩) (Nat.lt_of_lt_of_le q2 hB)];exact q3 k hk⟩
theorem LcP.on {w W:World} {B:Nat} (h:LcP w) (hB:w.heap.size≤B) (hb:Below B w W):LcP W:=by
 obtain⟨b,off,cap,q1,q2,q3⟩:=h;have h16:16<w.heap.size:=qfc q1;exact⟨b,off,cap,by rw[hb.cell (p:=⟨16,0,none⟩) (Nat.lt_of_lt_of_le h16 hB)];exact q1,Nat.lt_of_lt_of_le q2 hb.size,fun k hk=>by rw[hb.cell (p:=⟨b,off+k*2,none⟩) (Nat.lt_of_lt_of_le q2 hB),hb.cell (p:=⟨b,off+k*2+1,none⟩) (Nat.lt_of_lt_of_le q2 hB)];exact q3 k hk⟩
end Go.Proofs.YtdeimnnpcfncpaaGreatDoor
end
section
namespace Go.Proofs.YtdeimnnpcfncpaaGreatDoor.L
theorem qdl: ∀(l r:List UInt8) (acc a:Nat),Lib.parseUint10 acc l= .ok a→Lib.parseUint10 acc (l++r)=Lib.parseUint10 a r
 | [],r,acc,a,h=>by
   simp only[Lib.parseUint10,Lib.NumEnd.ok.injEq] at h;rw[h];rfl
 |c::l,r,acc,a,h=>by
  rw[List.cons_append,Lib.parseUint10];rw[Lib.parseUint10] at h
  split at h
  ·rename_i h1
   rw[if_pos h1]
   split at h
   ·cases h
   ·rename_i h2
    rw[if_neg h2]
    split at h
    ·cases h
    ·rename_i h3
     rw[if_neg h3];exact qdl l r _ a h
  ·cases h
theorem qfi (d:Nat) (h:d<10):(UInt8.ofNat (48+d)).toNat=48+d:=by rw[UInt8.toNat_ofNat'];omega
theorem qf0 (u:Nat) (h:u<18446744073709551616):Lib.parseUint10 0 (Lib.decDigits u)= .ok u:=by
 induction u using Nat.strongRecOn with
 |_ u ih=>
  rw[Lib.decDigits]
  by_cases h10:u<10
  ·rw[dif_pos h10,Lib.parseUint10,qfi u h10,if_pos (by omega),if_neg (by omega),if_neg (by omega)];simp only[Lib.parseUint10,Lib.NumEnd.ok.injEq];omega
  ·rw[dif_neg h10,qdl _ _ _ _ (ih (u/10) (by omega) (by omega)),Lib.parseUint10,qfi _ (Nat.mod_lt _ (by omega)),if_pos (by omega),if_neg (by omega),if_neg (by omega)];simp only[Lib.parseUint10,Lib.NumEnd.ok.injEq];omega
theorem dec_head (u:Nat): ∃c r,Lib.decDigits u=c::r∧48≤c.toNat∧c.toNat≤57:=by
 induction u using Nat.strongRecOn with
 |_ u ih=>
  rw[Lib.decDigits]
  by_cases h10:u<10
  ·rw[dif_pos h10];exact⟨_,_,rfl,by rw[qfi u h10];omega,by rw[qfi u h10];omega⟩
  ·rw[dif_neg h10];obtain⟨c,r,h1,h2,h3⟩:=ih (u/10) (by omega);exact⟨c,r++[_],by rw[h1];rfl,h2,h3⟩
theorem qjC (u:Nat) (k:Nat) (h:u<10^(k+1)):(Lib.decDigits u).length≤k+1:=by
 induction k generalizing u with
 |zero=>
  rw[Lib.decDigits,dif_pos (by omega)];exact Nat.le_refl _
 |succ k ih=>
  rw[Lib.decDigits]
  by_cases h10:u<10
  ·rw[dif_pos h10];simp
  ·rw[dif_neg h10,List.length_append];have:=ih (u/10) (by rw[Nat.pow_succ] at h;omega);simp only[List.length_cons,List.length_nil];omega
theorem itoa_len (n:Int) (h0: -9223372036854775808≤n) (h1:n≤9223372036854775807):(Lib.itoa n).length≤21:=by
 unfold Lib.itoa
 split
 ·have:=qjC n.natAbs 19 (by omega);rw[List.length_cons];omega
 ·have:=qjC n.toNat 19 (by omega);omega
theorem atoi_itoa (n:Int) (h0: -9223372036854775808≤n) (h1:n≤9223372036854775807):Lib.atoiAll (Lib.itoa n)= .ok n:=by
 unfold Lib.itoa
 by_cases hn:n<0
 ·rw[if_pos hn];unfold Lib.atoiAll;obtain⟨c,r,hd,_,_⟩:=dec_head n.natAbs
  have hp:Lib.parseMag (Lib.decDigits n.natAbs)= .ok n.natAbs:=by
   unfold Lib.parseMag;rw[if_neg (by rw[hd];simp),qf0 _ (by omega)]
  simp only;rw[if_pos (.inr rfl),hp];simp only;rw[if_neg (by simp),if_neg (by omega),if_pos (by decide)]
  congr 1
  omega
 ·rw[if_neg hn];obtain⟨c,r,hd,hc1,hc2⟩:=dec_head n.toNat
  have hp:Lib.parseMag (c::r)= .ok n.toNat:=by
   unfold Lib.parseMag;rw[if_neg (by simp),←hd,qf0 _ (by omega)]
  rw[hd];unfold Lib.atoiAll;simp only;rw[if_neg (by omega),hp];simp only;rw[if_neg (by omega),if_neg (by omega),if_neg (by omega)]
  congr 1
  omega
end Go.Proofs.YtdeimnnpcfncpaaGreatDoor.L
end
section
namespace Go.Proofs.YtdeimnnpcfncpaaGreatDoor.L
open Go.RowKit
theorem qsT (s:ByteArray) (i:Nat) (h:i<s.size): ∃c:UInt8,Hid (s.data.toList.getD i 0=c)∧(((s[i]'h).toNat:Int)=(c.toNat:Int)):=
 ⟨_,Lh rfl,qde s i h⟩
end Go.Proofs.YtdeimnnpcfncpaaGreatDoor.L
end
section
namespace Go.Proofs.YtdeimnnpcfncpaaGreatDoor.L
open Go.RowKit Go.Shelf
def encq (c:UInt8):List UInt8:=if c=92 then [92,92] else if c=10 then [92,110] else if c=34 then [92,34] else [c]
def quL (l:List UInt8):List UInt8:=l.flatMap encq
theorem qqx (j:Nat) (h:j<3):encq (pcU j)=[92,plU j]:=by
 rcases(by omega:j=0∨j=1∨j=2)with rfl|rfl|rfl<;>rfl
theorem qo7 (c:UInt8) (h: ∀j,j<3→c≠pcU j):encq c=[c]:=by
 have h0:c≠92:=h 0 (by omega);have h1:c≠10:=h 1 (by omega);have h2:c≠34:=h 2 (by omega);unfold encq;rw[if_neg h0,if_neg h1,if_neg h2]
theorem qlS (c:UInt8):(encq c).length≤2:=by
 unfold encq;(repeat' split)<;>simp
theorem quL_len (l:List UInt8):(quL l).length≤2*l.length:=by
 induction l with
 |nil=>exact Nat.le_refl _
 |cons c r ih=>
  have:=qlS c;unfold quL at ih⊢;rw[List.flatMap_cons,List.length_append,List.length_cons];omega
theorem qmT (l:List UInt8) (c:UInt8):quL (l++[c])=quL l++encq c:=by simp[quL]
theorem qrO {B b:Nat} {l:List UInt8} {w:World} (h:qlx B b l w):b<w.heap.size:=by
 rcases h with h|h
 ·obtain⟨_,v,hb,_⟩:=h;exact(Array.getElem?_eq_some_iff.1 hb).1
 ·obtain⟨_,v,hb,_⟩:=h;exact(Array.getElem?_eq_some_iff.1 hb).1
def WrI (w0:World) (b N M:Nat) (acc:List UInt8) (w:World):Prop:=RdI w0 b N acc w∧Boxed w M 3 (.int .i64 3)
theorem WrI.alloc {w0:World} {b N M:Nat} {acc:List UInt8} {w:World} (h:WrI w0 b N M acc w) (o:Obj):WrI w0 b N M acc (w.alloc o):=⟨h.1.alloc o,h.2.alloc o⟩
theorem qti (w0:World) (b N M:Nat) (hN:N≠b) (hM:M≠b) (acc:List UInt8) (c:UInt8) (hl:acc.length<1000000) (w:World) (h:WrI w0 b N M acc w):
 Calls Tryz.prog 99 #[.pointer (some ⟨b,0,none⟩),.int .u8 (c.toNat:Int)] w fun e w'=>e= .returned .nilIface∧WrI w0 b N M (acc++[c]) w'∧Lib.OthersKept 5 (some b) w w':=by
 obtain⟨⟨⟨h1,h2⟩,h3⟩,h4⟩:=h;refine(qtx w0.heap.size b acc c hl w h1 h3.size).mono ?_;rintro e w' ⟨rfl,g1,g2,g3⟩;exact⟨rfl,⟨⟨⟨g1,h2.kept hN g3⟩,h3.trans g2⟩,g3 M _ h4 (fun e=>hM (Option.some.inj e)) (fun c fz e=>by cases e)⟩,g3⟩
theorem qoZ (w0:World) (b N M:Nat) (hN:N≠b) (hM:M≠b) (acc:List UInt8) (c:UInt8) (hl:acc.length<900000) (w:World) (h:WrI w0 b N M acc w):
 Calls Tryz.prog 226 #[.int .u8 (c.toNat:Int),.pointer (some ⟨N,0,none⟩),.pointer (some ⟨M,0,none⟩),.pointer (some ⟨b,0,none⟩)] w fun e w'=>e= .returned (.tuple #[])∧WrI w0 b N M (acc++encq c) w':=by
 have hM1:=h.2.cell;replace h:=Lh h;go_enter Tryz.func226,Tryz.ntmps226;go_wp2_with fail;clear hM1;go_loopg [0,10] 4 (fun g s0 s10 wx=> ∃j:Nat,j+g=4∧1≤g∧s0= .int .u8 (c.toNat:Int)∧s10= .int .i64 j∧Hid (∀i,i<j→c≠pcU i)∧Hid (WrI w0 b N M acc wx))
 case atStart=>exact⟨0,by omega,by omega,rfl,rfl,Lh (fun i hi=>by omega),h⟩
 case round=>
  clear h;obtain⟨j,hj,hg,rfl,rfl,hP,I⟩:=hrel
  by_cases hlj:j<3
  ·have t4:decide (j<3)=true:=dT hlj;obtain⟨k1,k2⟩:=I.out.1.1.2.cells j hlj;rw[qjm] at k1;rw[qk4] at k2;have hI1:=Lh (I.out.alloc (.cells #[.int .u8 ((pcU j).toNat:Int),.int .u8 ((plU j).toNat:Int)] 275))
   by_cases he:c=pcU j
   ·have s4:((c.toNat:Int)==((pcU j).toNat:Int))=true:=by rw[he];simp
    have ho:Hid ((acc++[92])++[plU j]=acc++encq c):=by show _=_;rw[he,qqx j hlj];simp
    have I0:Hid (b<wr.heap.size):=Lh (qrO I.out.1.1.1);clear I hP;have hw1:=qti w0 b N M hN hM acc 92 (by omega) _ hI1.out;rw[show(((92:UInt8).toNat:Int))=92 from rfl] at hw1;replace hw1:=Lh hw1;have hbl:=Lh (World.alloc_heap_new wr (.cells #[.int .u8 ((pcU j).toNat:Int),.int .u8 ((plU j).toNat:Int)] 275));have hbb:b<wr.heap.size:=I0.out;clear hI1 he;go_wp2_with fail;refine hw1.out.mono ?_;rintro e w3 ⟨rfl,hI3,hk⟩;have hb3:=hk wr.heap.size _ hbl.out (fun e=>by have:=Option.some.inj e;omega) (fun c fz e=>by cases e);have c1:w3.cell? ⟨wr.heap.size,1,none⟩=some (.int .u8 ((plU j).toNat:Int)):=by rw[Lib.cell_of_heap hb3];rfl
    have hI4:=Lh (qti w0 b N M hN hM (acc++[92]) (plU j) (by simp;omega) _ hI3);rw[ho.out] at hI4;clear hw1 hbl hk hb3 hI3 ho;go_wp2_with fail;refine hI4.out.mono ?_;rintro e w4 ⟨rfl,hI5,_⟩;replace hI5:=Lh hI5;clear hI4 c1;go_wp2_with fail;go_end0;exact⟨rfl,hI5.out⟩
   ·have s4:((c.toNat:Int)==((pcU j).toNat:Int))=false:=qdh c _ _ rfl he
    have hP2:Hid (∀i,i<j+1→c≠pcU i):=fun i hi=>by
     by_cases e:i=j
     ·subst e;exact he
     ·exact hP.out i (by omega)
    clear I hP;go_wp2_with fail;go_roundg (gk - 1)
    case measure=>omega
    case rel=>exact⟨j+1,by omega,by omega,rfl,by go_num,hP2,hI1⟩
  ·obtain rfl:j=3:=by omega
   have t4:decide (3<3)=false:=rfl;have ho:Hid (acc++[c]=acc++encq c):=by show _=_;rw[qo7 c hP.out]
   go_wp2_with fail;refine(qti w0 b N M hN hM acc c (by omega) _ I.out).mono ?_;rintro e w3 ⟨rfl,hI3,_⟩;rw[ho.out] at hI3;replace hI3:=Lh hI3;go_wp2_with fail;go_end0;exact⟨rfl,hI3.out⟩
theorem qpV (w w1:World) (h:Below ((w.alloc (.cells #[.int .i64 3] 3)).alloc (.cells #[.pointer none,.slice none 0 0] 80)).heap.size ((w.alloc (.cells #[.int .i64 3] 3)).alloc (.cells #[.pointer none,.slice none 0 0] 80)) w1):
 WrI w (w.heap.size+1) w1.heap.size w.heap.size [] (w1.alloc (.cells qe2 276)):=by
 have hsz:=h.size;simp at hsz;have hb:w1.heap[w.heap.size+1]?=some (.cells #[.pointer none,.slice none 0 0] 80 (0,0)):=(h.block (w.heap.size+1) (by simp)).trans (by have:=World.alloc_heap_new (w.alloc (.cells #[.int .i64 3] 3)) (.cells #[.pointer none,.slice none 0 0] 80);simpa using this);have hm:w1.heap[w.heap.size]?=some (.cells #[.int .i64 3] 3 (0,0)):=(h.block w.heap.size (by simp;omega)).trans ((Lib.alloc_old (w.alloc (.cells #[.int .i64 3] 3)) _ w.heap.size (by simp)).trans (World.alloc_heap_new _ _));have h1:qlx w.heap.size (w.heap.size+1) [] w1:= .of (.inl ⟨Nat.le_succ _,.slice none 0 0,hb,World.ownsRow_nil _ _ 5 1,by simp[Value.ownBlock]⟩);refine⟨⟨⟨h1.alloc _,World.alloc_heap_new _ _⟩,((((Below.refl _ _).alloc (Nat.le_refl _) _).alloc (by simp) _).trans (h.mono (by simp;omega))).alloc (by omega) _⟩,?_⟩;exact(Lib.alloc_old w1 _ w.heap.size (by omega)).trans hm
theorem qk1 (s:ByteArray) (hs:s.size≤65536) (u:ByteArray) (hu:u=⟨(quL s.data.toList).toArray⟩) (w:World):
 Calls Tryz.prog 171 #[.string s,.int .i64 3] w fun e w'=>e= .returned (.tuple #[.string u,.int .i64 0])∧Below w.heap.size w w':=by
 have hz:Hid (s.data.toList.length=s.size):=by show _=_;simp
 replace hu:=Lh hu;have t1:decide (65536<(s.size:Int))=false:=dF (by omega);go_enter Tryz.func171,Tryz.ntmps171;go_wp2_with fail;refine(qej _).mono ?_;rintro e w1 ⟨rfl,hb1⟩;go_wp2_with fail;show Code.wp _ _ _ _ (w1.alloc (.cells qe2 276));have I:=Lh (qpV w w1 hb1);have hN:w1.heap.size≠w.heap.size+1:=by have:=hb1.size;simp at this;omega
 have hM:w.heap.size≠w.heap.size+1:=by omega
 clear hb1 t1;generalize w1.alloc (.cells qe2 276)=w2 at I⊢;generalize w1.heap.size=N at I hN⊢;go_loopg [17] (s.size+1) (fun g s17 wx=> ∃i:Nat,i+g=s.size+1∧s17= .int .i64 i∧i≤s.size∧Hid (WrI w (w.heap.size+1) N w.heap.size (quL (s.data.toList.take i)) wx))
 case atStart=>exact⟨0,by omega,rfl,by omega,I⟩
 case round=>
  clear I;obtain⟨i,hg,rfl,hi,I⟩:=hrel
  by_cases hlt:i<s.size
  ·have t2:decide (i<s.size)=true:=dT hlt;obtain⟨c,hc,hB⟩:=qsT s i hlt
   have hq:Hid (quL (s.data.toList.take i)++encq c=quL (s.data.toList.take (i+1))):=by
    show _=_;rw[List.take_add_one,List.getElem?_eq_getElem (by rw[hz.out];exact hlt),Option.toList_some,qmT,←hc.out,List.getD_eq_getElem?_getD,List.getElem?_eq_getElem (by rw[hz.out];exact hlt),Option.getD_some]
   have hql:=quL_len (s.data.toList.take i);have htl:(s.data.toList.take i).length≤i:=List.length_take_le _ _;have hput:=qoZ w (w.heap.size+1) N w.heap.size hN hM (quL (s.data.toList.take i)) c (by omega) wr I.out;rw[hq.out] at hput;replace hput:=Lh hput;clear hq hc I;go_wp2_with fail;refine hput.out.mono ?_;rintro e w3 ⟨rfl,hI⟩;replace hI:=Lh hI;clear hput;go_wp2_with fail;go_roundg (gk - 1)
   case measure=>omega
   case rel=>exact⟨i+1,by omega,by go_num,by omega,hI⟩
  ·obtain rfl:i=s.size:=by omega
   have t2:decide (s.size<s.size)=false:=dF (by omega);have I2:=I.out;rw[List.take_of_length_le (by rw[hz.out];exact Nat.le_refl _)] at I2;have hstr:=Lh (qqc w.heap.size (w.heap.size+1) _ u hu.out wr I2.1.1.1 I2.1.2.size);have hB:=Lh I2.1.2;clear I2 I;go_wp2_with fail;refine hstr.out.mono ?_;rintro e w3 ⟨rfl,_,hb,_⟩;have hB2:=Lh (hB.out.trans hb);clear hb hstr;go_wp2_with fail;go_ret2;exact⟨rfl,hB2.out⟩
theorem qiA (s:ByteArray) (hs:s.size≤65536) (u:ByteArray) (hu:u=⟨(quL s.data.toList).toArray⟩) (w:World):
 Calls Tryz.prog 115 #[.string s] w fun e w'=>e= .returned (.tuple #[.string u,.int .i64 0])∧Below w.heap.size w w':=by
 have hc:=Lh (qk1 s hs u hu w);clear hu;go_enter Tryz.func115,Tryz.ntmps115;go_wp2_with fail;refine hc.out.mono ?_;rintro e w3 ⟨rfl,hb⟩;go_wp2_with fail;go_ret2;exact⟨rfl,hb⟩
theorem quote_of (s:ByteArray) (hs:s.size≤65536) (t:ByteArray) (ht:t=⟨(34::quL s.data.toList++[34]).toArray⟩) (w:World):
 Calls Tryz.prog 58 #[.string s] w fun e w'=>e= .returned (.tuple #[.string t,.int .i64 0])∧Below w.heap.size w w':=by
 obtain⟨u,hu⟩: ∃u:ByteArray,Hid (u=⟨(quL s.data.toList).toArray⟩):=⟨_,Lh rfl⟩
 have hul:u.size≤131072:=by
  rw[hu.out,qe1];have:=quL_len s.data.toList;have hz:s.data.toList.length=s.size:=by simp
  omega
 have ht2:Hid (t=(⟨#[34]⟩++u)++⟨#[34]⟩):=by
  show _=_;rw[ht,hu.out];apply ByteArray.ext;apply Array.ext';simp
 have hc:=Lh (qiA s hs u hu.out w);clear hu ht;go_enter Tryz.func58,Tryz.ntmps58;go_wp2_with fail;refine hc.out.mono ?_;rintro e w3 ⟨rfl,hb⟩;go_wp2_with fail;go_ret2;exact⟨by rw[ht2.out];rfl,hb⟩
end Go.Proofs.YtdeimnnpcfncpaaGreatDoor.L
end
