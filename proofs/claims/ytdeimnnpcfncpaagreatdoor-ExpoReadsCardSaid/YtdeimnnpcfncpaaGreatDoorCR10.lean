/- Parts of the proof: LC LP1 LR2 LQ1 LP3 LRB LR3 LP2. -/
import Derived.Test.YtdeimnnpcfncpaaGreatDoorCR03
import Derived.Test.YtdeimnnpcfncpaaGreatDoorCR05
import Derived.Test.YtdeimnnpcfncpaaGreatDoorCR09
set_option linter.unusedVariables false
set_option linter.unusedSimpArgs false
set_option maxRecDepth 100000
set_option maxHeartbeats 64000000
section
namespace Go.Proofs.YtdeimnnpcfncpaaGreatDoor
open Go Go.RowKit
def sb (s:ByteArray) (i:Nat):Nat:=(bt s i).toNat
def ldl (k:Nat):Nat:=(Pinned.cheatRows.getD k (0,[])).1
def lcl (k:Nat):List UInt8:=(Pinned.cheatRows.getD k (0,[])).2
def lcs (k:Nat):ByteArray:=⟨(lcl k).toArray⟩
def pbL:List Nat:=[1,3,6,9,13,16,19,23,26]
def ptb (k:Nat):Nat:=pbL.getD k 0
def qwl (k:Nat):Bool:=
 (List.range (lcl k).length).all (fun i=>decide (48≤((lcl k).getD i 0).toNat)&&decide (((lcl k).getD i 0).toNat≤57))&&
 decide (num (fun i=>((lcl k).getD i 0).toNat) (lcl k).length=5^k)&&decide ((lcl k).length+ldl k=k+1)&&decide (1≤ldl k)&&decide (10^(ldl k - 1)≤2^k)&&decide (2^k<10^ldl k)&&
 decide (48<((lcl k).getD ((lcl k).length - 1) 0).toNat)&&decide ((lcl k).length≤100)
theorem qtX:((List.range 61).drop 1).all qwl=true:=by decide+kernel
theorem qpw (k:Nat):(lcs k).size=(lcl k).length:=by unfold lcs ByteArray.size;simp
theorem qvz (k:Nat) (h1:1≤k) (h2:k≤60):qdS (sb (lcs k)) (lcs k).size∧num (sb (lcs k)) (lcs k).size=5^k∧(lcs k).size+ldl k=k+1∧1≤ldl k∧10^(ldl k - 1)≤2^k∧2^k<10^ldl k∧48<sb (lcs k) ((lcs k).size - 1)∧(lcs k).size≤100:=by
 have h:=List.all_eq_true.1 qtX k (by
  rw[List.mem_iff_getElem?]
  exact⟨k - 1,by rw[List.getElem?_drop,List.getElem?_range (by omega)];congr 1;omega⟩)
 unfold qwl at h;simp only[Bool.and_eq_true,decide_eq_true_eq,List.all_eq_true,List.mem_range] at h;obtain⟨⟨⟨⟨⟨⟨⟨a,b⟩,c⟩,d⟩,e⟩,f⟩,g⟩,i⟩:=h;rw[qpw];exact⟨fun j hj=>a j hj,b,c,d,e,f,g,i⟩
def PtP (w:World):Prop:= ∃b off cap,w.cell? ⟨13,0,none⟩=some (.slice (some ⟨b,off,none⟩) 9 cap)∧b<w.heap.size∧ ∀k,k<9→w.cell? ⟨b,off+k,none⟩=some (.int .i64 (ptb k:Int))
def LcP (w:World):Prop:= ∃b off cap,w.cell? ⟨16,0,none⟩=some (.slice (some ⟨b,off,none⟩) 61 cap)∧b<w.heap.size∧ ∀k,k<61→w.cell? ⟨b,off+k*2,none⟩=some (.int .i64 (ldl k:Int))∧w.cell? ⟨b,off+k*2+1,none⟩=some (.string (lcs k))
theorem qgD {w:World} {p:Addr} {v:Value} (h:w.cell? p=some v):p.block<w.heap.size:=by
 rcases Nat.lt_or_ge p.block w.heap.size with h'|h'
 ·exact h'
 ·unfold World.cell? at h;rw[Array.getElem?_eq_none h'] at h;cases h
theorem PtP.on {w W:World} {B:Nat} (h:PtP w) (hB:w.heap.size≤B) (hb:Below B w W):PtP W:=by
 obtain⟨b,off,cap,q1,q2,q3⟩:=h;have h13:13<w.heap.size:=qgD q1;exact⟨b,off,cap,by rw[hb.cell (p:=⟨13,0,none⟩) (Nat.lt_of_lt_of_le h13 hB)];exact q1,Nat.lt_of_lt_of_le q2 hb.size,fun k hk=>by rw[hb.cell (p:=⟨b,off+k,none⟩) (Nat.lt_of_lt_of_le q2 hB)];exact q3 k hk⟩
theorem LcP.on {w W:World} {B:Nat} (h:LcP w) (hB:w.heap.size≤B) (hb:Below B w W):LcP W:=by
 obtain⟨b,off,cap,q1,q2,q3⟩:=h;have h16:16<w.heap.size:=qgD q1;exact⟨b,off,cap,by rw[hb.cell (p:=⟨16,0,none⟩) (Nat.lt_of_lt_of_le h16 hB)];exact q1,Nat.lt_of_lt_of_le q2 hb.size,fun k hk=>by rw[hb.cell (p:=⟨b,off+k*2,none⟩) (Nat.lt_of_lt_of_le q2 hB),hb.cell (p:=⟨b,off+k*2+1,none⟩) (Nat.lt_of_lt_of_le q2 hB)];exact q3 k hk⟩
end Go.Proofs.YtdeimnnpcfncpaaGreatDoor
end
section
namespace Go.Proofs.YtdeimnnpcfncpaaGreatDoor.L
theorem qdY: ∀(l r:List UInt8) (acc a:Nat),Lib.parseUint10 acc l= .ok a→Lib.parseUint10 acc (l++r)=Lib.parseUint10 a r
 | [],r,acc,a,h=>by
   simp only[Lib.parseUint10,Lib.NumEnd.ok.injEq] at h;rw[h];rfl
 |c::l,r,acc,a,h=>by
  rw[List.cons_append,Lib.parseUint10];rw[Lib.parseUint10] at h
  split at h
  ·rename_i h1
   rw[if_pos h1]
   split at h
   ·cases h
   ·rename_i h2
    rw[if_neg h2]
    split at h
    ·cases h
    ·rename_i h3
     rw[if_neg h3];exact qdY l r _ a h
  ·cases h
theorem qbL (d:Nat) (h:d<10):(UInt8.ofNat (48+d)).toNat=48+d:=by rw[UInt8.toNat_ofNat'];omega
theorem qhG (u:Nat) (h:u<18446744073709551616):Lib.parseUint10 0 (Lib.decDigits u)= .ok u:=by
 induction u using Nat.strongRecOn with
 |_ u ih=>
  rw[Lib.decDigits]
  by_cases h10:u<10
  ·rw[dif_pos h10,Lib.parseUint10,qbL u h10,if_pos (by omega),if_neg (by omega),if_neg (by omega)];simp only[Lib.parseUint10,Lib.NumEnd.ok.injEq];omega
  ·rw[dif_neg h10,qdY _ _ _ _ (ih (u/10) (by omega) (by omega)),Lib.parseUint10,qbL _ (Nat.mod_lt _ (by omega)),if_pos (by omega),if_neg (by omega),if_neg (by omega)];simp only[Lib.parseUint10,Lib.NumEnd.ok.injEq];omega
theorem qf3 (u:Nat): ∃c r,Lib.decDigits u=c::r∧48≤c.toNat∧c.toNat≤57:=by
 induction u using Nat.strongRecOn with
 |_ u ih=>
  rw[Lib.decDigits]
  by_cases h10:u<10
  ·rw[dif_pos h10];exact⟨_,_,rfl,by rw[qbL u h10];omega,by rw[qbL u h10];omega⟩
  ·rw[dif_neg h10];obtain⟨c,r,h1,h2,h3⟩:=ih (u/10) (by omega);exact⟨c,r++[_],by rw[h1];rfl,h2,h3⟩
theorem qlH (u:Nat) (k:Nat) (h:u<10^(k+1)):(Lib.decDigits u).length≤k+1:=by
 induction k generalizing u with
 |zero=>
  rw[Lib.decDigits,dif_pos (by omega)];exact Nat.le_refl _
 |succ k ih=>
  rw[Lib.decDigits]
  by_cases h10:u<10
  ·rw[dif_pos h10];simp
  ·rw[dif_neg h10,List.length_append];have:=ih (u/10) (by rw[Nat.pow_succ] at h;omega);simp only[List.length_cons,List.length_nil];omega
theorem itoa_len (n:Int) (h0: -9223372036854775808≤n) (h1:n≤9223372036854775807):(Lib.itoa n).length≤21:=by
 unfold Lib.itoa
 split
 ·have:=qlH n.natAbs 19 (by omega);rw[List.length_cons];omega
 ·have:=qlH n.toNat 19 (by omega);omega
theorem atoi_itoa (n:Int) (h0: -9223372036854775808≤n) (h1:n≤9223372036854775807):Lib.atoiAll (Lib.itoa n)= .ok n:=by
 unfold Lib.itoa
 by_cases hn:n<0
 ·rw[if_pos hn];unfold Lib.atoiAll;obtain⟨c,r,hd,_,_⟩:=qf3 n.natAbs
  have hp:Lib.parseMag (Lib.decDigits n.natAbs)= .ok n.natAbs:=by
   unfold Lib.parseMag;rw[if_neg (by rw[hd];simp),qhG _ (by omega)]
  simp only;rw[if_pos (.inr rfl),hp];simp only;rw[if_neg (by simp),if_neg (by omega),if_pos (by decide)]
  congr 1
  omega
 ·rw[if_neg hn];obtain⟨c,r,hd,hc1,hc2⟩:=qf3 n.toNat
  have hp:Lib.parseMag (c::r)= .ok n.toNat:=by
   unfold Lib.parseMag;rw[if_neg (by simp),←hd,qhG _ (by omega)]
  rw[hd];unfold Lib.atoiAll;simp only;rw[if_neg (by omega),hp];simp only;rw[if_neg (by omega),if_neg (by omega),if_neg (by omega)]
  congr 1
  omega
end Go.Proofs.YtdeimnnpcfncpaaGreatDoor.L
end
section
namespace Go.Proofs.YtdeimnnpcfncpaaGreatDoor.L
open Go.RowKit
theorem qkO (s:ByteArray) (i:Nat) (h:i<s.size): ∃c:UInt8,Hid (s.data.toList.getD i 0=c)∧(((s[i]'h).toNat:Int)=(c.toNat:Int)):=
 ⟨_,Lh rfl,qaV s i h⟩
end Go.Proofs.YtdeimnnpcfncpaaGreatDoor.L
end
section
namespace Go.Proofs.YtdeimnnpcfncpaaGreatDoor.L
open Go.RowKit Go.Shelf
def qll (c:UInt8):List UInt8:=if c=92 then [92,92] else if c=10 then [92,110] else if c=34 then [92,34] else [c]
def quL (l:List UInt8):List UInt8:=l.flatMap qll
theorem qth (j:Nat) (h:j<3):qll (pcU j)=[92,plU j]:=by
 rcases(by omega:j=0∨j=1∨j=2)with rfl|rfl|rfl<;>rfl
theorem qqW (c:UInt8) (h: ∀j,j<3→c≠pcU j):qll c=[c]:=by
 have h0:c≠92:=h 0 (by omega);have h1:c≠10:=h 1 (by omega);have h2:c≠34:=h 2 (by omega);unfold qll;rw[if_neg h0,if_neg h1,if_neg h2]
theorem qpM (c:UInt8):(qll c).length≤2:=by
 unfold qll;(repeat' split)<;>simp
theorem quL_len (l:List UInt8):(quL l).length≤2*l.length:=by
 induction l with
 |nil=>exact Nat.le_refl _
 |cons c r ih=>
  have:=qpM c;unfold quL at ih⊢;rw[List.flatMap_cons,List.length_append,List.length_cons];omega
theorem qoY (l:List UInt8) (c:UInt8):quL (l++[c])=quL l++qll c:=by simp[quL]
theorem qt5 {B b:Nat} {l:List UInt8} {w:World} (h:qnl B b l w):b<w.heap.size:=by
 rcases h with h|h
 ·obtain⟨_,v,hb,_⟩:=h;exact(Array.getElem?_eq_some_iff.1 hb).1
 ·obtain⟨_,v,hb,_⟩:=h;exact(Array.getElem?_eq_some_iff.1 hb).1
def WrI (w0:World) (b N M:Nat) (acc:List UInt8) (w:World):Prop:=RdI w0 b N acc w∧Boxed w M 3 (.int .i64 3)
theorem WrI.alloc {w0:World} {b N M:Nat} {acc:List UInt8} {w:World} (h:WrI w0 b N M acc w) (o:Obj):WrI w0 b N M acc (w.alloc o):=⟨h.1.alloc o,h.2.alloc o⟩
theorem qvY (w0:World) (b N M:Nat) (hN:N≠b) (hM:M≠b) (acc:List UInt8) (c:UInt8) (hl:acc.length<1000000) (w:World) (h:WrI w0 b N M acc w):
 Calls Tryz.prog 99 #[.pointer (some ⟨b,0,none⟩),.int .u8 (c.toNat:Int)] w fun e w'=>e= .returned .nilIface∧WrI w0 b N M (acc++[c]) w'∧Lib.OthersKept 5 (some b) w w':=by
 obtain⟨⟨⟨h1,h2⟩,h3⟩,h4⟩:=h;refine(qwk w0.heap.size b acc c hl w h1 h3.size).mono ?_;rintro e w' ⟨rfl,g1,g2,g3⟩;exact⟨rfl,⟨⟨⟨g1,h2.kept hN g3⟩,h3.trans g2⟩,g3 M _ h4 (fun e=>hM (Option.some.inj e)) (fun c fz e=>by cases e)⟩,g3⟩
theorem qrL (w0:World) (b N M:Nat) (hN:N≠b) (hM:M≠b) (acc:List UInt8) (c:UInt8) (hl:acc.length<900000) (w:World) (h:WrI w0 b N M acc w):
 Calls Tryz.prog 226 #[.int .u8 (c.toNat:Int),.pointer (some ⟨N,0,none⟩),.pointer (some ⟨M,0,none⟩),.pointer (some ⟨b,0,none⟩)] w fun e w'=>e= .returned (.tuple #[])∧WrI w0 b N M (acc++qll c) w':=by
 have hM1:=h.2.cell;replace h:=Lh h;go_enter Tryz.func226,Tryz.ntmps226;go_wp2_with fail;clear hM1;go_loopg [0,10] 4 (fun g s0 s10 wx=> ∃j:Nat,j+g=4∧1≤g∧s0= .int .u8 (c.toNat:Int)∧s10= .int .i64 j∧Hid (∀i,i<j→c≠pcU i)∧Hid (WrI w0 b N M acc wx))
 case atStart=>exact⟨0,by omega,by omega,rfl,rfl,Lh (fun i hi=>by omega),h⟩
 case round=>
  clear h;obtain⟨j,hj,hg,rfl,rfl,hP,I⟩:=hrel
  by_cases hlj:j<3
  ·have t4:decide (j<3)=true:=dT hlj;obtain⟨k1,k2⟩:=I.out.1.1.2.cells j hlj;rw[qmM] at k1;rw[qlb] at k2;have hI1:=Lh (I.out.alloc (.cells #[.int .u8 ((pcU j).toNat:Int),.int .u8 ((plU j).toNat:Int)] 275))
   by_cases he:c=pcU j
   ·have s4:((c.toNat:Int)==((pcU j).toNat:Int))=true:=by rw[he];simp
    have ho:Hid ((acc++[92])++[plU j]=acc++qll c):=by show _=_;rw[he,qth j hlj];simp
    have I0:Hid (b<wr.heap.size):=Lh (qt5 I.out.1.1.1);clear I hP;have hw1:=qvY w0 b N M hN hM acc 92 (by omega) _ hI1.out;rw[show(((92:UInt8).toNat:Int))=92 from rfl] at hw1;replace hw1:=Lh hw1;have hbl:=Lh (World.alloc_heap_new wr (.cells #[.int .u8 ((pcU j).toNat:Int),.int .u8 ((plU j).toNat:Int)] 275));have hbb:b<wr.heap.size:=I0.out;clear hI1 he;go_wp2_with fail;refine hw1.out.mono ?_;rintro e w3 ⟨rfl,hI3,hk⟩;have hb3:=hk wr.heap.size _ hbl.out (fun e=>by have:=Option.some.inj e;omega) (fun c fz e=>by cases e);have c1:w3.cell? ⟨wr.heap.size,1,none⟩=some (.int .u8 ((plU j).toNat:Int)):=by rw[Lib.cell_of_heap hb3];rfl
    have hI4:=Lh (qvY w0 b N M hN hM (acc++[92]) (plU j) (by simp;omega) _ hI3);rw[ho.out] at hI4;clear hw1 hbl hk hb3 hI3 ho;go_wp2_with fail;refine hI4.out.mono ?_;rintro e w4 ⟨rfl,hI5,_⟩;replace hI5:=Lh hI5;clear hI4 c1;go_wp2_with fail;go_end0;exact⟨rfl,hI5.out⟩
   ·have s4:((c.toNat:Int)==((pcU j).toNat:Int))=false:=qbk c _ _ rfl he
    have hP2:Hid (∀i,i<j+1→c≠pcU i):=fun i hi=>by
     by_cases e:i=j
     ·subst e;exact he
     ·exact hP.out i (by omega)
    clear I hP;go_wp2_with fail;go_roundg (gk - 1)
    case measure=>omega
    case rel=>exact⟨j+1,by omega,by omega,rfl,by go_num,hP2,hI1⟩
  ·obtain rfl:j=3:=by omega
   have t4:decide (3<3)=false:=rfl;have ho:Hid (acc++[c]=acc++qll c):=by show _=_;rw[qqW c hP.out]
   go_wp2_with fail;refine(qvY w0 b N M hN hM acc c (by omega) _ I.out).mono ?_;rintro e w3 ⟨rfl,hI3,_⟩;rw[ho.out] at hI3;replace hI3:=Lh hI3;go_wp2_with fail;go_end0;exact⟨rfl,hI3.out⟩
theorem qsV (w w1:World) (h:Below ((w.alloc (.cells #[.int .i64 3] 3)).alloc (.cells #[.pointer none,.slice none 0 0] 80)).heap.size ((w.alloc (.cells #[.int .i64 3] 3)).alloc (.cells #[.pointer none,.slice none 0 0] 80)) w1):
 WrI w (w.heap.size+1) w1.heap.size w.heap.size [] (w1.alloc (.cells qgh 276)):=by
 have hsz:=h.size;simp at hsz;have hb:w1.heap[w.heap.size+1]?=some (.cells #[.pointer none,.slice none 0 0] 80 (0,0)):=(h.block (w.heap.size+1) (by simp)).trans (by have:=World.alloc_heap_new (w.alloc (.cells #[.int .i64 3] 3)) (.cells #[.pointer none,.slice none 0 0] 80);simpa using this);have hm:w1.heap[w.heap.size]?=some (.cells #[.int .i64 3] 3 (0,0)):=(h.block w.heap.size (by simp;omega)).trans ((Lib.alloc_old (w.alloc (.cells #[.int .i64 3] 3)) _ w.heap.size (by simp)).trans (World.alloc_heap_new _ _));have h1:qnl w.heap.size (w.heap.size+1) [] w1:= .of (.inl ⟨Nat.le_succ _,.slice none 0 0,hb,World.ownsRow_nil _ _ 5 1,by simp[Value.ownBlock]⟩);refine⟨⟨⟨h1.alloc _,World.alloc_heap_new _ _⟩,((((Below.refl _ _).alloc (Nat.le_refl _) _).alloc (by simp) _).trans (h.mono (by simp;omega))).alloc (by omega) _⟩,?_⟩;exact(Lib.alloc_old w1 _ w.heap.size (by omega)).trans hm
theorem qmn (s:ByteArray) (hs:s.size≤65536) (u:ByteArray) (hu:u=⟨(quL s.data.toList).toArray⟩) (w:World):
 Calls Tryz.prog 171 #[.string s,.int .i64 3] w fun e w'=>e= .returned (.tuple #[.string u,.int .i64 0])∧Below w.heap.size w w':=by
 have hz:Hid (s.data.toList.length=s.size):=by show _=_;simp
 replace hu:=Lh hu;have t1:decide (65536<(s.size:Int))=false:=dF (by omega);go_enter Tryz.func171,Tryz.ntmps171;go_wp2_with fail;refine(qe2 _).mono ?_;rintro e w1 ⟨rfl,hb1⟩;go_wp2_with fail;show Code.wp _ _ _ _ (w1.alloc (.cells qgh 276));have I:=Lh (qsV w w1 hb1);have hN:w1.heap.size≠w.heap.size+1:=by have:=hb1.size;simp at this;omega
 have hM:w.heap.size≠w.heap.size+1:=by omega
 clear hb1 t1;generalize w1.alloc (.cells qgh 276)=w2 at I⊢;generalize w1.heap.size=N at I hN⊢;go_loopg [17] (s.size+1) (fun g s17 wx=> ∃i:Nat,i+g=s.size+1∧s17= .int .i64 i∧i≤s.size∧Hid (WrI w (w.heap.size+1) N w.heap.size (quL (s.data.toList.take i)) wx))
 case atStart=>exact⟨0,by omega,rfl,by omega,I⟩
 case round=>
  clear I;obtain⟨i,hg,rfl,hi,I⟩:=hrel
  by_cases hlt:i<s.size
  ·have t2:decide (i<s.size)=true:=dT hlt;obtain⟨c,hc,hB⟩:=qkO s i hlt
   have hq:Hid (quL (s.data.toList.take i)++qll c=quL (s.data.toList.take (i+1))):=by
    show _=_;rw[List.take_add_one,gZq (by rw[hz.out];exact hlt),Option.toList_some,qoY,←hc.out,gZd,gZq (by rw[hz.out];exact hlt),Option.getD_some]
   have hql:=quL_len (s.data.toList.take i);have htl:(s.data.toList.take i).length≤i:=List.length_take_le _ _;have hput:=qrL w (w.heap.size+1) N w.heap.size hN hM (quL (s.data.toList.take i)) c (by omega) wr I.out;rw[hq.out] at hput;replace hput:=Lh hput;clear hq hc I;go_wp2_with fail;refine hput.out.mono ?_;rintro e w3 ⟨rfl,hI⟩;replace hI:=Lh hI;clear hput;go_wp2_with fail;go_roundg (gk - 1)
   case measure=>omega
   case rel=>exact⟨i+1,by omega,by go_num,by omega,hI⟩
  ·obtain rfl:i=s.size:=by omega
   have t2:decide (s.size<s.size)=false:=dF (by omega);have I2:=I.out;rw[List.take_of_length_le (by rw[hz.out];exact Nat.le_refl _)] at I2;have hstr:=Lh (qrc w.heap.size (w.heap.size+1) _ u hu.out wr I2.1.1.1 I2.1.2.size);have hB:=Lh I2.1.2;clear I2 I;go_wp2_with fail;refine hstr.out.mono ?_;rintro e w3 ⟨rfl,_,hb,_⟩;have hB2:=Lh (hB.out.trans hb);clear hb hstr;go_wp2_with fail;go_ret2;exact⟨rfl,hB2.out⟩
theorem qjI (s:ByteArray) (hs:s.size≤65536) (u:ByteArray) (hu:u=⟨(quL s.data.toList).toArray⟩) (w:World):
 Calls Tryz.prog 115 #[.string s] w fun e w'=>e= .returned (.tuple #[.string u,.int .i64 0])∧Below w.heap.size w w':=by
 have hc:=Lh (qmn s hs u hu w);clear hu;go_enter Tryz.func115,Tryz.ntmps115;go_wp2_with fail;refine hc.out.mono ?_;rintro e w3 ⟨rfl,hb⟩;go_wp2_with fail;go_ret2;exact⟨rfl,hb⟩
theorem quote_of (s:ByteArray) (hs:s.size≤65536) (t:ByteArray) (ht:t=⟨(34::quL s.data.toList++[34]).toArray⟩) (w:World):
 Calls Tryz.prog 58 #[.string s] w fun e w'=>e= .returned (.tuple #[.string t,.int .i64 0])∧Below w.heap.size w w':=by
 obtain⟨u,hu⟩: ∃u:ByteArray,Hid (u=⟨(quL s.data.toList).toArray⟩):=⟨_,Lh rfl⟩
 have hul:u.size≤131072:=by
  rw[hu.out,qf1];have:=quL_len s.data.toList;have hz:s.data.toList.length=s.size:=by simp
  omega
 have ht2:Hid (t=(⟨#[34]⟩++u)++⟨#[34]⟩):=by
  show _=_;rw[ht,hu.out];apply ByteArray.ext;apply Array.ext';simp
 have hc:=Lh (qjI s hs u hu.out w);clear hu ht;go_enter Tryz.func58,Tryz.ntmps58;go_wp2_with fail;refine hc.out.mono ?_;rintro e w3 ⟨rfl,hb⟩;go_wp2_with fail;go_ret2;exact⟨by rw[ht2.out];rfl,hb⟩
end Go.Proofs.YtdeimnnpcfncpaaGreatDoor.L
end
section
namespace Go.Proofs.YtdeimnnpcfncpaaGreatDoor.L
def scq:List UInt8→Int×Nat
 | []=>(222,0)
 | [c]=>if c=34 then (0,0) else if c=10 then (223,0) else (222,0)
 |c::x::t=>if c=34 then (0,0) else if c=10 then (223,0) else if c=92 then if esc x=[] then (220,0) else ((scq t).1,(scq t).2+2) else ((scq (x::t)).1,(scq (x::t)).2+1)
def rdR:List UInt8→Int×List UInt8
 | []=>(0,[])
 | [c]=>if c=10 then (223,[]) else if c=34 then (221,[]) else if c=92 then (220,[]) else (0,[c])
 |c::x::t=>if c=10 then (223,[]) else if c=34 then (221,[]) else if c=92 then if esc x=[] then (220,[]) else if (rdR t).1=0 then (0,esc x++(rdR t).2) else ((rdR t).1,[]) else if (rdR (x::t)).1=0 then (0,c::(rdR (x::t)).2) else ((rdR (x::t)).1,[])
theorem qhk (x:UInt8) (t:List UInt8) (hx:esc x≠[]):rdR (92::x::t)=if (rdR t).1=0 then (0,esc x++(rdR t).2) else ((rdR t).1,[]):=by
 rw[rdR,if_neg (by decide),if_neg (by decide),if_pos rfl,if_neg hx]
theorem qg7 (c:UInt8) (t:List UInt8) (h1:c≠10) (h2:c≠34) (h3:c≠92):rdR (c::t)=if (rdR t).1=0 then (0,c::(rdR t).2) else ((rdR t).1,[]):=by
 cases t with
 |nil=>simp[rdR,h1,h2,h3]
 |cons x t=>rw[rdR,if_neg h1,if_neg h2,if_neg h3]
theorem qrD (l:List UInt8):(scq l).1=(rdq l).1∧((rdq l).1=0→(scq l).2=(rdq l).2.2∧(scq l).2<l.length∧rdR (l.take (scq l).2)=(0,(rdq l).2.1)):=by
 fun_induction scq l with
 |case1=>exact⟨rfl,fun h=>by simp[rdq] at h⟩
 |case2=>exact⟨rfl,fun _=>⟨rfl,by simp,rfl⟩⟩
 |case3 h=>exact⟨rfl,fun h=>by simp[rdq] at h⟩
 |case4 c h1 h2=>rw[rdq,if_neg h2,if_neg h1];exact⟨rfl,fun h=>by simp at h⟩
 |case5 x t=>exact⟨rfl,fun _=>⟨rfl,by simp,rfl⟩⟩
 |case6 x t h=>exact⟨rfl,fun h=>by simp[rdq] at h⟩
 |case7 x t he h1 h2=>rw[rdq,if_neg h2,if_neg h1,if_pos rfl,if_pos he];exact⟨rfl,fun h=>by simp at h⟩
 |case8 x t he h1 h2 ih=>
  rw[rdq,if_neg h2,if_neg h1,if_pos rfl,if_neg he];refine⟨?_,fun h=>?_⟩
  ·unfold comb;split
   ·rename_i g;rw[ih.1,g]
   ·exact ih.1
  ·unfold comb at h⊢
   by_cases g:(rdq t).1=0
   ·obtain⟨e1,e2,e3⟩:=ih.2 g;rw[if_pos g];refine⟨by simp only;omega,by simp;omega,?_⟩;rw[List.take_succ_cons,List.take_succ_cons,qhk x _ he,e3];rfl
   ·rw[if_neg g] at h;exact absurd h g
 |case9 c x t h1 h2 h3 ih=>
  rw[rdq,if_neg h2,if_neg h1,if_neg h3];refine⟨?_,fun h=>?_⟩
  ·unfold comb;split
   ·rename_i g;rw[ih.1,g]
   ·exact ih.1
  ·unfold comb at h⊢
   by_cases g:(rdq (x::t)).1=0
   ·obtain⟨e1,e2,e3⟩:=ih.2 g;rw[if_pos g];refine⟨by simp only;omega,by simp at e2⊢;omega,?_⟩;rw[List.take_succ_cons,qg7 c _ h2 h1 h3,e3];rfl
   ·rw[if_neg g] at h;exact absurd h g
end Go.Proofs.YtdeimnnpcfncpaaGreatDoor.L
end
section
namespace Go.Proofs.YtdeimnnpcfncpaaGreatDoor.L
open Go.RowKit
theorem qae {W:World} {base e k n:Nat} {v:Value} {xs:List Value} (h:W.ownsRow base e k v n xs): ∃a c,v= .slice a n c:=by
 rcases h.2 with ⟨h1,h2⟩|⟨g,cap,cur,h1,_⟩
 ·exact⟨_,_,by rw[h1,h2]⟩
 ·exact⟨_,_,h1⟩
theorem qli (x:UInt8) (h:esc x=[]) (w:World):Calls Tryz.prog 245 #[.int .u8 (x.toNat:Int),.bool true] w fun e w'=>e= .returned (.tuple #[.int .u8 34,.bool false])∧w=w':=by
 have h1:x≠92:=fun e=>by subst e;simp[esc] at h
 have h2:x≠110:=fun e=>by subst e;simp[esc] at h
 have h3:x≠34:=fun e=>by subst e;simp[esc] at h
 have s1:=qbk x 92 _ rfl h1;have s2:=qbk x 110 _ rfl h2;have s3:=qbk x 34 _ rfl h3;rw[show(((92:UInt8).toNat:Int))=92 from rfl] at s1;rw[show(((110:UInt8).toNat:Int))=110 from rfl] at s2;rw[show(((34:UInt8).toNat:Int))=34 from rfl] at s3;clear h h1 h2 h3;go_enter Tryz.func245,Tryz.ntmps245;go_wp2_with fail;go_ret2;exact⟨rfl,rfl⟩
theorem qfR (x y:UInt8) (h:esc x=[y]) (w:World):Calls Tryz.prog 245 #[.int .u8 (x.toNat:Int),.bool true] w fun e w'=>e= .returned (.tuple #[.int .u8 (y.toNat:Int),.bool true])∧w=w':=by
 have h':(x=92∧y=92)∨(x=110∧y=10)∨(x=34∧y=34):=by
  unfold esc at h
  split at h
  ·rename_i e;exact .inl ⟨e,(List.cons.inj h).1.symm⟩
  ·split at h
   ·rename_i e;exact .inr (.inl ⟨e,(List.cons.inj h).1.symm⟩)
   ·split at h
    ·rename_i e;exact .inr (.inr ⟨e,(List.cons.inj h).1.symm⟩)
    ·cases h
 clear h;rcases h' with ⟨rfl,rfl⟩|⟨rfl,rfl⟩|⟨rfl,rfl⟩
 ·go_enter Tryz.func245,Tryz.ntmps245;go_wp2_with fail;go_ret2;exact⟨rfl,rfl⟩
 ·go_enter Tryz.func245,Tryz.ntmps245;go_wp2_with fail;go_ret2;exact⟨rfl,rfl⟩
 ·go_enter Tryz.func245,Tryz.ntmps245;go_wp2_with fail;go_ret2;exact⟨rfl,rfl⟩
theorem qna (x:UInt8) (h:esc x≠[]): ∃y,esc x=[y]:=by
 unfold esc at h⊢
 (repeat' split)<;>first|exact⟨_,rfl⟩|simp_all
theorem qp2:(Tryz.prog.info? 5).map (fun i=>(i.zero,i.size,i.bytes))=some (some (.int .u8 0),1,1):=by kernel_rfl
theorem qlR (l:List UInt8) (i:Nat) (h:i<l.length) (hc:l.getD i 0=10):(rdR (l.drop i)).1=223:=by
 rw[qaf l i h,hc];cases l.drop (i+1)<;>rfl
theorem qm4 (l:List UInt8) (i:Nat) (h:i<l.length) (hc:l.getD i 0=34):(rdR (l.drop i)).1=221:=by
 rw[qaf l i h,hc];cases l.drop (i+1)<;>rfl
theorem qjV (l:List UInt8) (i:Nat) (h:i+1=l.length) (hc:l.getD i 0=92):(rdR (l.drop i)).1=220:=by
 rw[qaf l i (by omega),hc,List.drop_of_length_le (by omega)];rfl
theorem qmC (l:List UInt8) (i:Nat) (h:i+1<l.length) (hc:l.getD i 0=92) (he:esc (l.getD (i+1) 0)=[]):(rdR (l.drop i)).1=220:=by
 rw[qaf l i (by omega),hc,qaf l (i+1) h,rdR,if_neg (by decide),if_neg (by decide),if_pos rfl,if_pos he]
theorem qkc (l:List UInt8) (i:Nat) (u:List UInt8) (h:i+1<l.length) (hc:l.getD i 0=92) (y:UInt8) (he:esc (l.getD (i+1) 0)=[y]) (hr:rdR (l.drop i)=(0,u)): ∃v,u=y::v∧rdR (l.drop (i+2))=(0,v):=by
 rw[qaf l i (by omega),hc,qaf l (i+1) h,qhk _ _ (by rw[he];simp),he] at hr
 by_cases g:(rdR (l.drop (i+1+1))).1=0
 ·rw[if_pos g] at hr;simp only[Prod.mk.injEq,true_and] at hr;exact⟨_,hr.symm,Prod.ext g rfl⟩
 ·rw[if_neg g] at hr;simp only[Prod.mk.injEq] at hr;exact absurd hr.1 g
theorem qhE (l:List UInt8) (i:Nat) (u:List UInt8) (h:i<l.length) (h1:l.getD i 0≠10) (h2:l.getD i 0≠34) (h3:l.getD i 0≠92) (hr:rdR (l.drop i)=(0,u)): ∃v,u=l.getD i 0::v∧rdR (l.drop (i+1))=(0,v):=by
 rw[qaf l i h,qg7 _ _ h1 h2 h3] at hr
 by_cases g:(rdR (l.drop (i+1))).1=0
 ·rw[if_pos g] at hr;simp only[Prod.mk.injEq,true_and] at hr;exact⟨_,hr.symm,Prod.ext g rfl⟩
 ·rw[if_neg g] at hr;simp only[Prod.mk.injEq] at hr;exact absurd hr.1 g
theorem quJ (s:ByteArray) (hs:s.size≤65536) (t:List UInt8) (h:rdR s.data.toList=(0,t)) (w:World):
 Calls Tryz.prog 199 #[.string s,.bool true] w fun r w'=>r= .returned (.tuple #[.string ⟨t.toArray⟩,.int .i64 0])∧Below w.heap.size w w':=by
 replace h:=Lh h;have hz:Hid (s.data.toList.length=s.size):=by show _=_;simp
 have t0:decide (65536<(s.size:Int))=false:=dF (by omega);have I0:Hid (w.ownsRow w.heap.size 5 1 (.slice none 0 0) 0 (([]:List UInt8).map qbO)):=⟨rfl,.inl ⟨rfl,rfl⟩⟩;go_enter Tryz.func199,Tryz.ntmps199;go_wp2_with fail;go_loopg [6,7] (s.size+1) (fun g s6 s7 wx=> ∃(i:Nat) (acc u:List UInt8),s.size - i<g∧i≤s.size∧acc.length≤i∧s7= .int .i64 i∧Hid (rdR (s.data.toList.drop i)=(0,u))∧Hid (acc++u=t)∧Hid (wx.ownsRow w.heap.size 5 1 s6 acc.length (acc.map qbO))∧Hid (Below w.heap.size w wx))
 case atStart=>exact⟨0,[],t,by omega,by omega,by simp,rfl,h,Lh rfl,I0,Lh (Below.refl _ _)⟩
 case round=>
  clear h I0 t0;obtain⟨i,acc,u,hg,hi,hal,rfl,hR,hT,I,B⟩:=hrel
  by_cases hlt:i<s.size
  ·have t1:decide (i<s.size)=true:=dT hlt;have hli:i<s.data.toList.length:=by rw[hz.out];exact hlt
   obtain⟨c,hc,hB⟩:=qkO s i hlt;have g1:c≠10:=fun e=>by have:=qlR _ i hli (hc.out.trans e);rw[hR.out] at this;cases this
   have g2:c≠34:=fun e=>by have:=qm4 _ i hli (hc.out.trans e);rw[hR.out] at this;cases this
   have s1:((c.toNat:Int)==10)=false:=qbk c 10 _ rfl g1;have s2:((c.toNat:Int)==34)=false:=qbk c 34 _ rfl g2;obtain⟨n6,hn6⟩: ∃n6,n6=acc.length:=⟨_,rfl⟩;obtain⟨a6,c6,rfl⟩:=qae I.out;have hBs:=B.out.size
   by_cases g3:c=92
   ·subst g3;have hend:i+1≠s.size:=fun e=>by have:=qjV _ i (by rw[hz.out];exact e) hc.out;rw[hR.out] at this;cases this
    have hlt2:i+1<s.size:=by omega
    have t2:((i:Int)+1==(s.size:Int))=false:=by simp;omega
    obtain⟨x,hx,hB2⟩:=qkO s (i+1) hlt2;have hne:esc x≠[]:=fun e=>by have:=qmC _ i (by rw[hz.out];exact hlt2) hc.out (by rw[hx.out];exact e);rw[hR.out] at this;cases this
    obtain⟨y,hy⟩:=qna x hne;obtain⟨v,hv1,hv2⟩:=qkc _ i u (by rw[hz.out];exact hlt2) hc.out y (by rw[hx.out];exact hy) hR.out;replace hv2:=Lh hv2;have hT2:Hid ((acc++[y])++v=t):=by show _=_;rw[←hT.out,hv1];simp
    have hst:=Lh (qfR x y hy);rw[show(((92:UInt8).toNat:Int))=92 from rfl] at hB s1 s2;have t3:decide (0≤(i:Int)+1)=true:=dT (by omega);clear hne hy hv1 hR hT hc hx g1 g2 hn6;go_wp2_with fail;refine(hst.out _).mono ?_;rintro r w2 ⟨rfl,rfl⟩;clear hst;go_wp2_with (at_builtin;go_must (refine qeT rfl (.tmp 56) (.tmp 58) 78 rfl (u:= .int .u8 (y.toNat:Int)) w.heap.size (.int .u8 0) 1 Tryz.underlying78 qp2 rfl _ acc.length _ rfl rfl I.out rfl (by omega) (by omega) hBs ?_);rintro v2 w3 hown2' hb2 hs2 _ hv3;have hown2:=Lh hown2';clear hown2');go_roundg (gk - 1)
    case measure=>omega
    case rel=>exact⟨i+2,acc++[y],v,by omega,by omega,by simp;omega,by go_num,hv2,hT2,by have:=hown2.out;rw[List.map_append,List.length_append];exact Lh this,Lh (B.out.trans hb2)⟩
   ·have s3':((c.toNat:Int)==92)=false:=qbk c 92 _ rfl g3;have s3:((c.toNat:Int) !=92)=true:=by rw[bne,s3'];rfl
    obtain⟨v,hv1,hv2⟩:=qhE _ i u hli (by rw[hc.out];exact g1) (by rw[hc.out];exact g2) (by rw[hc.out];exact g3) hR.out;rw[hc.out] at hv1;replace hv2:=Lh hv2;have hT2:Hid ((acc++[c])++v=t):=by show _=_;rw[←hT.out,hv1];simp
    clear hv1 hR hT hc g1 g2 g3 hn6;go_wp2_with (at_builtin;go_must (refine qeT rfl (.tmp 32) (.tmp 36) 78 rfl (u:= .int .u8 (c.toNat:Int)) w.heap.size (.int .u8 0) 1 Tryz.underlying78 qp2 rfl _ acc.length _ rfl rfl I.out rfl (by omega) (by omega) hBs ?_);rintro v2 w3 hown2' hb2 hs2 _ hv3;have hown2:=Lh hown2';clear hown2');go_roundg (gk - 1)
    case measure=>omega
    case rel=>exact⟨i+1,acc++[c],v,by omega,by omega,by simp;omega,by go_num,hv2,hT2,by have:=hown2.out;rw[List.map_append,List.length_append];exact Lh this,Lh (B.out.trans hb2)⟩
  ·obtain rfl:i=s.size:=by omega
   have hR':=hR.out;rw[List.drop_of_length_le (by rw[hz.out];exact Nat.le_refl _),rdR] at hR';simp only[Prod.mk.injEq,true_and] at hR';subst hR';have hT':=hT.out;rw[List.append_nil] at hT';subst hT';obtain⟨a6,c6,rfl⟩:=qae I.out;have hcv:Hid ((convert 78 9 (.slice a6 acc.length c6)).run Tryz.prog wr= .ok (.string ⟨acc.toArray⟩) wr):=qjC Tryz.underlying78 Tryz.underlying5 Tryz.underlying9 I.out;have hcv':=hcv.out;clear hR hT I;go_wp2_with fail;go_ret2;exact⟨rfl,B.out⟩
theorem qut (l:List UInt8) (i:Nat) (h:i<l.length) (hc:l.getD i 0=34):scq (l.drop i)=(0,0):=by
 rw[qaf l i h,hc];cases l.drop (i+1)<;>rfl
theorem qud (l:List UInt8) (i:Nat) (h:i<l.length) (hc:l.getD i 0=10):(scq (l.drop i)).1=223:=by
 rw[qaf l i h,hc];cases l.drop (i+1)<;>rfl
theorem qlh (l:List UInt8) (i:Nat) (h:l.length≤i):scq (l.drop i)=(222,0):=by
 rw[List.drop_of_length_le h];rfl
theorem qjD (l:List UInt8) (i:Nat) (h:i+1=l.length) (hc:l.getD i 0=92):scq (l.drop i)=(222,0):=by
 rw[qaf l i (by omega),hc,List.drop_of_length_le (by omega)];rfl
theorem qkN (l:List UInt8) (i:Nat) (h:i+1<l.length) (hc:l.getD i 0=92) (he:esc (l.getD (i+1) 0)=[]):(scq (l.drop i)).1=220:=by
 rw[qaf l i (by omega),hc,qaf l (i+1) h,scq,if_neg (by decide),if_neg (by decide),if_pos rfl,if_pos he]
theorem qve (l:List UInt8) (i:Nat) (h:i+1<l.length) (hc:l.getD i 0=92) (he:esc (l.getD (i+1) 0)≠[]):scq (l.drop i)=((scq (l.drop (i+2))).1,(scq (l.drop (i+2))).2+2):=by
 rw[qaf l i (by omega),hc,qaf l (i+1) h,scq,if_neg (by decide),if_neg (by decide),if_pos rfl,if_neg he]
theorem qpz (l:List UInt8) (i:Nat) (h:i<l.length) (h1:l.getD i 0≠10) (h2:l.getD i 0≠34) (h3:l.getD i 0≠92):(scq (l.drop i)).1=(scq (l.drop (i+1))).1∧((scq (l.drop i)).1=0→(scq (l.drop i)).2=(scq (l.drop (i+1))).2+1):=by
 rw[qaf l i h];generalize l.getD i 0=c at h1 h2 h3⊢
 cases l.drop (i+1)with
 |nil=>simp[scq,h1,h2]
 |cons x t=>rw[scq,if_neg h2,if_neg h1,if_neg h3];exact⟨rfl,fun _=>rfl⟩
def ScI (l:List UInt8) (e:Int) (K i:Nat):Prop:=(scq (l.drop i)).1=e∧(e=0→i+(scq (l.drop i)).2=K)
theorem ScI.next {l:List UInt8} {e:Int} {K i:Nat} (H:ScI l e K i) (h:i<l.length) (h1:l.getD i 0≠10) (h2:l.getD i 0≠34) (h3:l.getD i 0≠92):ScI l e K (i+1):=by
 obtain⟨a,b⟩:=qpz l i h h1 h2 h3;refine⟨a▸H.1,fun e0=>?_⟩;have:=H.2 e0;rw[b (H.1.trans e0)] at this;omega
theorem ScI.slash {l:List UInt8} {e:Int} {K i:Nat} (H:ScI l e K i) (h:i+1<l.length) (hc:l.getD i 0=92) (he:esc (l.getD (i+1) 0)≠[]):ScI l e K (i+2):=by
 have a:=qve l i h hc he;unfold ScI at H;rw[a] at H;refine⟨H.1,fun e0=>?_⟩;have:=H.2 e0;simp only at this;omega
theorem qgM (s:ByteArray) (i j:Nat):(s.extract i j).data.toList=(s.data.toList.drop i).take (j - i):=by
 rw[ByteArray.data_extract,Array.toList_extract,List.extract_eq_take_drop]
def qwA (t:List UInt8) (e:Int) (p n:Nat) (w:World) (x:Ending) (w':World):Prop:=(∃k:Nat,x= .returned (.tuple #[.string ⟨t.toArray⟩,.int .i64 k,.int .i64 e])∧(e=0→k=p+n))∧Below w.heap.size w w'
theorem rquote_any (s:ByteArray) (hs:s.size≤65536) (p:Nat) (hp:p<s.size) (hq:s.data.toList.getD p 0=34) (e:Int) (t:List UInt8) (n:Nat) (h:quF (s.data.toList.drop p)=(e,t,n)) (w:World):
 Calls Tryz.prog 190 #[.string s,.int .i64 p] w (qwA t e p n w):=by
 have hz:Hid (s.data.toList.length=s.size):=by show _=_;simp
 obtain⟨K,hK⟩: ∃K,Hid (p+1+(scq (s.data.toList.drop (p+1))).2=K):=⟨_,Lh rfl⟩;have hsc:=qrD (s.data.toList.drop (p+1))
 have hsc1:Hid (ScI s.data.toList e K (p+1)∧(e=0→K<s.size∧p+n=K+1∧rdR ((s.data.toList.drop (p+1)).take (K - (p+1)))=(0,t))∧(e≠0→t=[])):=by
  show _∧_;unfold quF comb at h;rw[List.drop_drop] at h
  by_cases g:(rdq (s.data.toList.drop (p+1))).1=0
  ·obtain⟨a,b,c⟩:=hsc.2 g;rw[if_pos g] at h;simp only[List.nil_append,if_true,Prod.mk.injEq,Nat.zero_add] at h;obtain⟨rfl,rfl,rfl⟩:=h;refine⟨⟨hsc.1.trans g,fun _=>hK.out⟩,fun _=>⟨?_,?_,?_⟩,fun h=>absurd rfl h⟩
   ·have:=hK.out;rw[List.length_drop,hz.out] at b;omega
   ·have:=hK.out;omega
   ·rw[←c,←hK.out,Nat.add_sub_cancel_left]
  ·rw[if_neg g] at h;simp only[if_neg g,Prod.mk.injEq] at h;obtain⟨rfl,rfl,rfl⟩:=h;exact⟨⟨hsc.1,fun h=>absurd h g⟩,fun h=>absurd h g,fun _=>rfl⟩
 obtain⟨hS,hOk,hNo⟩:=hsc1.out;replace hS:=Lh hS;replace hOk:=Lh hOk;replace hNo:=Lh hNo;have t0:decide (65536<(s.size:Int))=false:=dF (by omega);have t1:decide ((p:Int)<0)=false:=dF (by omega);have t2:decide ((s.size:Int)<(p:Int))=false:=dF (by omega);have t2':decide (s.size<p)=false:=dF (by omega);have t3:((p:Int)==(s.size:Int))=false:=by simp;omega
 have hB:=qaV s p hp;rw[show byt s p=34 by unfold byt;rw[hq];rfl] at hB;clear h hsc hsc1 hK hq;go_enter Tryz.func190,Tryz.ntmps190;go_wp2_with fail;clear hB t0 t1 t2 t2' t3;go_loopg [7] (s.size+2) (fun g s7 wx=> ∃i:Nat,s.size+1 - i<g∧p+1≤i∧i≤s.size+1∧s7= .int .i64 i∧Hid (ScI s.data.toList e K i)∧w=wx)
 case atStart=>exact⟨p+1,by omega,by omega,by omega,by go_num,hS,rfl⟩
 case round=>
  clear hS;obtain⟨i,hg,hpi,hi,rfl,hS,rfl⟩:=hrel
  by_cases hlt:i<s.size
  ·have t1:decide (i<s.size)=true:=dT hlt;have hli:i<s.data.toList.length:=by rw[hz.out];exact hlt
   obtain⟨c,hc,hB⟩:=qkO s i hlt
   by_cases g2:c=34
   ·subst g2;have hS':=hS.out;unfold ScI at hS';rw[qut _ i hli hc.out] at hS';obtain⟨rfl,hk⟩:=hS';obtain rfl:i=K:=hk rfl;obtain⟨_,hn,hrd⟩:=hOk.out rfl;have hcall:=Lh (fun W=>quJ (s.extract (p+1) i) (by rw[ByteArray.size_extract];omega) t (by rw[qgM];exact hrd) W);rw[show(((34:UInt8).toNat:Int))=34 from rfl] at hB;have t4:decide ((p:Int)+1≤(i:Int))=true:=dT (by omega);have t5:decide (p+1≤i)=true:=dT (by omega);have t6:decide ((s.size:Int)≤(i:Int))=false:=dF (by omega);have t7:decide (i≤s.size)=true:=dT (by omega);have t8:decide (s.size≤i)=false:=dF (by omega);clear hS hOk hNo hc hk hrd;go_wp2_with fail;refine(hcall.out _).mono ?_;rintro r w2 ⟨rfl,hb⟩;clear hcall;go_wp2_with fail;go_ret3;exact⟨⟨i+1,by first|rfl|go_num,fun _=>by omega⟩,hb⟩
   ·have s2':((c.toNat:Int)==34)=false:=qbk c 34 _ rfl g2;have s2:((c.toNat:Int) !=34)=true:=by rw[bne,s2'];rfl
    clear s2'
    by_cases g1:c=10
    ·subst g1;have hS':=hS.out.1;rw[qud _ i hli hc.out] at hS';subst hS';obtain rfl:=hNo.out (by decide);rw[show(((10:UInt8).toNat:Int))=10 from rfl] at hB s2;clear hS hOk hNo hc;go_wp2_with fail;go_ret3;exact⟨⟨0,rfl,fun h=>by cases h⟩,Below.refl _ _⟩
    ·have s1:((c.toNat:Int)==10)=false:=qbk c 10 _ rfl g1
     by_cases g3:c=92
     ·subst g3;rw[show(((92:UInt8).toNat:Int))=92 from rfl] at hB s1 s2
      by_cases hend:i+1=s.size
      ·have hS':=hS.out.1;rw[qjD _ i (by rw[hz.out];exact hend) hc.out] at hS';simp only at hS';subst hS';have t4:decide ((i:Int)+1<(s.size:Int))=false:=dF (by omega);have t5:decide (i+1<s.size)=false:=dF (by omega);clear hS hc;go_wp2_with fail;go_roundg (gk - 1)
       case measure=>omega
       case rel=>exact⟨i+2,by omega,by omega,by omega,by go_num,Lh ⟨by rw[qlh _ _ (by rw[hz.out];omega)],fun h=>by cases h⟩,rfl⟩
      ·have hlt2:i+1<s.size:=by omega
       have t4:decide ((i:Int)+1<(s.size:Int))=true:=dT (by omega);have t5:decide (i+1<s.size)=true:=dT (by omega);have t6:decide (0≤(i:Int)+1)=true:=dT (by omega);obtain⟨x,hx,hB2⟩:=qkO s (i+1) hlt2
       by_cases hne:esc x=[]
       ·have hS':=hS.out.1;rw[qkN _ i (by rw[hz.out];exact hlt2) hc.out (by rw[hx.out];exact hne)] at hS';subst hS';obtain rfl:=hNo.out (by decide);have hst:=Lh (qli x hne);clear hS hOk hNo hc hx hne;go_wp2_with fail;refine(hst.out _).mono ?_;rintro r w2 ⟨rfl,rfl⟩;clear hst;go_wp2_with fail;go_ret3;exact⟨⟨0,rfl,fun h=>by cases h⟩,Below.refl _ _⟩
       ·have hS2:=Lh (hS.out.slash (by rw[hz.out];exact hlt2) hc.out (by rw[hx.out];exact hne));obtain⟨y,hy⟩:=qna x hne;have hst:=Lh (qfR x y hy);clear hS hc hx hne hy;go_wp2_with fail;refine(hst.out _).mono ?_;rintro r w2 ⟨rfl,rfl⟩;clear hst;go_wp2_with fail;go_roundg (gk - 1)
        case measure=>omega
        case rel=>exact⟨i+2,by omega,by omega,by omega,by go_num,hS2,rfl⟩
     ·have s3:((c.toNat:Int)==92)=false:=qbk c 92 _ rfl g3;have hS2:=Lh (hS.out.next hli (by rw[hc.out];exact g1) (by rw[hc.out];exact g2) (by rw[hc.out];exact g3));clear hS hc g1 g2 g3;go_wp2_with fail;go_roundg (gk - 1)
      case measure=>omega
      case rel=>exact⟨i+1,by omega,by omega,by omega,by go_num,hS2,rfl⟩
  ·have t1:decide (i<s.size)=false:=dF hlt;have hS':=hS.out.1;rw[qlh _ i (by rw[hz.out];omega)] at hS';simp only at hS';subst hS';obtain rfl:=hNo.out (by decide);have t6:decide ((s.size:Int)≤(i:Int))=true:=dT (by omega);have t8:decide (s.size≤i)=true:=dT (by omega);clear hS hOk hNo;go_wp2_with fail;go_ret3;exact⟨⟨0,rfl,fun h=>by cases h⟩,Below.refl _ _⟩
end Go.Proofs.YtdeimnnpcfncpaaGreatDoor.L
end
section
namespace Go.Proofs.YtdeimnnpcfncpaaGreatDoor.L
def qaA:List UInt8→Nat→Option Nat
 | [],a=>some a
 |c::r,a=>if 48≤c.toNat∧c.toNat≤57 then if 9223372036854775808<10*a+(c.toNat - 48) then none else qaA r (10*a+(c.toNat - 48)) else none
def refN (l:List UInt8):Option Int:=
 let at':=if l.head?=some 45 then 1 else 0
 if l.length=at'∨(l.getD at' 0=48∧1<l.length) then none
 else match qaA (l.drop at') 0 with
  |none=>none
  |some a=>if at'=0 then if a=9223372036854775808 then none else some (a:Int) else some (-(a:Int))
theorem qe5: ∀(l:List UInt8) (a b:Nat),a≤9223372036854775808→qaA l a=some b→b≤9223372036854775808
 | [],a,b,ha,h=>by simp only[qaA,Option.some.injEq] at h;omega
 |c::r,a,b,ha,h=>by
  rw[qaA] at h
  split at h
  ·split at h
   ·cases h
   ·exact qe5 r _ b (by omega) h
  ·cases h
theorem qb8: ∀(l:List UInt8) (c:UInt8) (a:Nat),qaA (l++[c]) a=(qaA l a).bind fun b=>qaA [c] b
 | [],c,a=>rfl
 |d::l,c,a=>by
  rw[List.cons_append,qaA,qaA]
  split
  ·split
   ·rfl
   ·exact qb8 l c _
  ·rfl
theorem qfO (u:Nat) (h:u≤9223372036854775808):qaA (Lib.decDigits u) 0=some u:=by
 induction u using Nat.strongRecOn with
 |_ u ih=>
  rw[Lib.decDigits]
  by_cases h10:u<10
  ·rw[dif_pos h10,qaA,qbL u h10,if_pos (by omega),if_neg (by omega)];simp only[qaA,Option.some.injEq];omega
  ·rw[dif_neg h10,qb8,ih (u/10) (by omega) (by omega),Option.bind_some,qaA,qbL _ (Nat.mod_lt _ (by omega)),if_pos (by omega),if_neg (by omega)];simp only[qaA,Option.some.injEq];omega
theorem qhM (u:Nat) (h0:0<u): ∃c r,Lib.decDigits u=c::r∧49≤c.toNat∧c.toNat≤57:=by
 induction u using Nat.strongRecOn with
 |_ u ih=>
  rw[Lib.decDigits]
  by_cases h10:u<10
  ·rw[dif_pos h10];exact⟨_,_,rfl,by rw[qbL u h10];omega,by rw[qbL u h10];omega⟩
  ·rw[dif_neg h10];obtain⟨c,r,h1,h2,h3⟩:=ih (u/10) (by omega) (by omega);exact⟨c,r++[_],by rw[h1];rfl,h2,h3⟩
theorem qev (n:Nat): ∀(l:List UInt8),l.length=n+1→(l.getD 0 0≠48∨n=0)→ ∀a,qaA l 0=some a→l=Lib.decDigits a:=by
 induction n with
 |zero=>
  intro l hl _ a h
  match l,hl with
  | [c],_=>
    rw[qaA] at h
    split at h
    ·split at h
     ·cases h
     ·simp only[qaA,Option.some.injEq] at h;subst h;rw[Lib.decDigits,dif_pos (by omega)]
      congr 1
      apply UInt8.toNat_inj.1;rw[qbL _ (by omega)];omega
    ·cases h
 |succ n ih=>
  intro l hl h0 a h;have hne:l≠[]:=by intro e;rw[e] at hl;simp at hl
  have hd:l.getD 0 0≠48:=h0.resolve_right (by omega);have hs:=List.dropLast_concat_getLast hne;have hr:l.dropLast.length=n+1:=by simp[hl]
  rw[←hs,qb8] at h
  cases hb:qaA l.dropLast 0 with
  |none=>rw[hb] at h;cases h
  |some b=>
   rw[hb,Option.bind_some] at h
   have hd':l.dropLast.getD 0 0≠48:=by
    rw[gZd,List.getElem?_dropLast,if_pos (by omega),←gZd];exact hd
   have hl':=ih l.dropLast hr (.inl hd') b hb
   have hb0:0<b:=by
    rcases Nat.eq_zero_or_pos b with e|e
    ·rw[e,Lib.decDigits,dif_pos (by omega)] at hl';rw[hl'] at hd';exact absurd rfl hd'
    ·exact e
   generalize l.getLast hne=c at h hs;rw[qaA] at h
   split at h
   ·split at h
    ·cases h
    ·rename_i h1 _
     simp only[qaA,Option.some.injEq] at h;subst h;rw[←hs,hl',Lib.decDigits.eq_def (10*b+(c.toNat - 48)),dif_neg (by omega),show(10*b+(c.toNat - 48))/10=b by omega,show(10*b+(c.toNat - 48))%10=c.toNat - 48 by omega]
     congr 2
     apply UInt8.toNat_inj.1;rw[qbL _ (by omega)];omega
   ·cases h
theorem refN_back (l:List UInt8) (v:Int) (h:refN l=some v):l=Lib.itoa v∧ -9223372036854775808≤v∧v≤9223372036854775807:=by
 unfold refN at h
 by_cases hm:l.head?=some 45
 ·obtain⟨r,rfl⟩: ∃r,l=45::r:=by
   cases l with
   |nil=>cases hm
   |cons c r=>simp only[List.head?_cons,Option.some.injEq] at hm;exact⟨r,by rw[hm]⟩
  simp only[List.head?_cons,if_true] at h
  split at h
  ·cases h
  ·rename_i hn
   simp only[List.length_cons,List.getD_cons_succ,List.drop_succ_cons,List.drop_zero,not_or,not_and] at hn h
   cases ha:qaA r 0 with
   |none=>rw[ha] at h;cases h
   |some a=>
    rw[ha] at h;simp only[Nat.succ_ne_zero,if_false,Option.some.injEq] at h;have hle:=qe5 r 0 a (by omega) ha;have hne:r.length≠0:=by omega
    have hd:r.getD 0 0≠48:=fun e=>hn.2 e (by omega)
    have hr:=qev (r.length - 1) r (by omega) (.inl hd) a ha
    have ha0:0<a:=by
     rcases Nat.eq_zero_or_pos a with e|e
     ·rw[e,Lib.decDigits,dif_pos (by omega)] at hr;rw[hr] at hd;exact absurd rfl hd
     ·exact e
    subst h;refine⟨?_,by omega,by omega⟩;unfold Lib.itoa;rw[if_pos (by omega),show(-(a:Int)).natAbs=a by omega,←hr]
 ·rw[if_neg hm] at h;simp only[if_true] at h
  split at h
  ·cases h
  ·rename_i hn
   simp only[List.drop_zero,not_or,not_and] at hn h
   cases ha:qaA l 0 with
   |none=>rw[ha] at h;cases h
   |some a=>
    rw[ha] at h;simp only at h
    split at h
    ·cases h
    ·rename_i hmax
     simp only[Option.some.injEq] at h;have hle:=qe5 l 0 a (by omega) ha
     have hr:=qev (l.length - 1) l (by omega) (by by_cases e:l.getD 0 0=48
                                                  ·right;have:=hn.2 e;omega
                                                  ·exact .inl e) a ha
     subst h;refine⟨?_,by omega,by omega⟩;unfold Lib.itoa;rw[if_neg (by omega),Int.toNat_natCast];exact hr
theorem refN_itoa (v:Int) (h0: -9223372036854775808≤v) (h1:v≤9223372036854775807):refN (Lib.itoa v)=some v:=by
 unfold refN Lib.itoa
 by_cases hv:v<0
 ·rw[if_pos hv];obtain⟨c,r,hd,hc,_⟩:=qhM v.natAbs (by omega);have ha:=qfO v.natAbs (by omega);simp only[List.head?_cons,if_true,List.length_cons,List.getD_cons_succ,List.drop_succ_cons,List.drop_zero];rw[if_neg,ha]
  ·simp only[Nat.succ_ne_zero,if_false]
   congr 1;omega
  ·rw[hd];simp only[List.length_cons,List.getD_cons_zero];rintro(h|⟨h,_⟩)
   ·omega
   ·rw[h] at hc;exact absurd hc (by decide)
 ·rw[if_neg hv];obtain⟨c,r,hd,hc,hc9⟩:=qf3 v.toNat;have ha:=qfO v.toNat (by omega)
  have hm: ¬(Lib.decDigits v.toNat).head?=some 45:=by
   rw[hd];simp only[List.head?_cons,Option.some.injEq];intro e;rw[e] at hc;exact absurd hc (by decide)
  simp only[if_neg hm,if_true,List.drop_zero];rw[if_neg,ha]
  ·simp only;rw[if_neg (by omega)]
   congr 1;omega
  ·rintro(h|⟨h,h2⟩)
   ·rw[hd] at h;simp at h
   ·rcases Nat.eq_zero_or_pos v.toNat with e|e
    ·rw[e,Lib.decDigits,dif_pos (by omega)] at h2;simp at h2
    ·obtain⟨c',r',hd',hc',_⟩:=qhM v.toNat e;rw[hd'] at h;simp only[List.getD_cons_zero] at h;rw[h] at hc';exact absurd hc' (by decide)
end Go.Proofs.YtdeimnnpcfncpaaGreatDoor.L
end
