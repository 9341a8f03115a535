/- Parts of the proof: D18 D21 D22 D20 D7 D9. -/
import Derived.Lib.AtoiErrMem
import Derived.Test.YtdeimnnpcfncpaaGreatDoorCR12
import Derived.Test.YtdeimnnpcfncpaaGreatDoorCR13
set_option linter.unusedVariables false
set_option linter.unusedSimpArgs false
set_option maxRecDepth 100000
set_option maxHeartbeats 64000000
namespace Go.Proofs.YtdeimnnpcfncpaaGreatDoor
open Go Go.RowKit
structure qeF (w:World) (B nb bb:Nat) (l:List UInt8) (k:Nat):Prop where
 row: ∃g cap,qcc w B 5 g l.length cap (l.map qbO)∧w.heap[nb]?=some (.cells #[.slice (some ⟨g,0,none⟩) l.length cap] 78 (0,0))
 beh:w.heap[bb]?=some (.cells #[.int .i64 (k:Int)] 3 (0,0))
theorem info5:(Tryz.prog.info? 5).map (fun i=>(i.zero,i.size,i.bytes))=some (some (.int .u8 0),1,1):=by kernel_rfl
theorem cell_of_heap {w:World} {b:Nat} {v:Value} {t:TypeId} (h:w.heap[b]?=some (.cells #[v] t (0,0))):w.cell? ⟨b,0,none⟩=some v:=by
 unfold World.cell?;rw[h];rfl
theorem qcc.row {w:World} {B e g n cap:Nat} {xs:List Value} {v:Value} (h:qcc w B e g n cap xs) (hv:v= .slice (some ⟨g,0,none⟩) n cap):Row w v xs:=by
 subst hv;refine .inr ⟨g,0,cap,by rw[h.len],h.lt,by rw[h.len];exact h.cap1,h.cap2,fun i hi=>?_⟩;rw[Nat.zero_add,h.cell i (by rw[←h.len];exact hi),gZq hi]
theorem row_one (B:Nat) (w:World) (u:Value) (h:B≤w.heap.size):(w.alloc (.cells #[u] 5)).ownsRow B 5 1 (.slice (some ⟨w.heap.size,0,none⟩) 1 1) 1 [u]:=
 ⟨rfl,.inr ⟨w.heap.size,1,#[u],rfl,h,by show(w.heap.push _)[_]?=_;exact Array.getElem?_push_size,Nat.le_refl _,by decide,rfl,rfl⟩⟩
theorem qlr {W:World} {B e n:Nat} {v:Value} {xs:List Value} (h:W.ownsRow B e 1 v n xs) (h0:0<n): ∃g cap,v= .slice (some ⟨g,0,none⟩) n cap:=by
 rcases h.2 with ⟨_,h1⟩|⟨g,cap,cur,h1,_⟩
 ·omega
 ·exact⟨g,cap,h1⟩
theorem qlG {w w3:World} {a:Nat} {o:Obj} {c n cap:Nat} {x:Obj} (hk: ∀row,(Value.slice (some ⟨a,0,none⟩) n cap).ownBlock≠some row→row<(w.alloc o).heap.size→w3.heap[row]?=(w.alloc o).heap[row]?) (h1:a≠c) (h2:c<w.heap.size) (h3:w.heap[c]?=some x):w3.heap[c]?=some x:=by
 rw[hk c (fun e=>h1 (Option.some.inj e)) (by simp;omega),Below.heap_alloc _ _ _ h2,h3]
theorem qfc {w:World} {b:Nat} {v:Value} {t:TypeId} (h:w.heap[b]?=some (.cells #[v] t (0,0))):w.frozen? ⟨b,0,none⟩=false:=by
 unfold World.frozen?;simp only[h];simp
theorem own_ne {w:World} {B e g n cap b:Nat} {xs:List Value} {v:Value} {t:TypeId} (h:w.ownsRow B e 1 (.slice (some ⟨g,0,none⟩) n cap) n xs) (hb:w.heap[b]?=some (.cells #[v] t (0,0))) (hne:e≠t):g≠b:=by
 rcases h.2 with ⟨h0,_⟩|⟨g',cap',cur,hv,_,hg,_⟩
 ·cases h0
 ·cases hv;intro e;rw[e,hb] at hg;simp only[Option.some.injEq,Obj.cells.injEq] at hg;exact hne hg.2.1.symm
theorem qf0 {w:World} {b:Nat} {v:Value} {t:TypeId} (h:w.heap[b]?=some (.cells #[v] t (0,0))) (u:Value):(w.setCell ⟨b,0,none⟩ u).heap[b]?=some (.cells #[u] t (0,0)):=by
 simp[World.setCell,Array.getElem?_modify,h]
theorem qnX {l:List UInt8}: ∀c∈l.map qbO,c.oneCell'=true:=by
 intro c hc;obtain⟨x,_,rfl⟩:=List.mem_map.1 hc;exact qnI x
theorem set_mid (l T:List UInt8) (i:Nat) (h:i<l.length) (u:UInt8):(l.take (i+1)++T).set i u=l.take i++u::T:=by
 rw[List.take_add_one,gZq h];show(l.take i++[l[i]]++T).set i u=_;have hl:(l.take i).length=i:=List.length_take_of_le (by omega);rw[List.append_assoc,List.set_append_right _ _ (by omega),hl,Nat.sub_self];rfl
theorem qaU {A:World} {a:Addr} {k:Nat} (v:Value) (h:k≠a.block):(A.setCell a v).heap[k]?=A.heap[k]?:=Below.heap_setCell _ a v k h
theorem qjA (B nb bb:Nat) (l:List UInt8) (k:Nat) (w:World) (hl:l.length≤2000) (hd:qaQ l) (h:qeF w B nb bb l k) (hb1:B≤nb) (hne:nb≠bb):
 Calls Tryz.prog 64 #[.pointer (some ⟨nb,0,none⟩)] w fun e w'=>e= .returned (.tuple #[])∧qeF w' B nb bb (qhQ l) k∧Below B w w':=by
 obtain⟨⟨g,cap,hrow,hnb⟩,hbb⟩:=h;have c1:=cell_of_heap hnb;obtain⟨n,hn⟩: ∃n,n=l.length:=⟨_,rfl⟩;rw[←hn] at hrow c1 hl;have D0:Hid (l.drop n=[]):=Lh (by rw[hn];exact List.drop_length)
 have I0:Hid (qcc w B 5 g n cap ((l.take n++(qcd (l.drop n)).1).map qbO)):=Lh (by
  rw[D0.out,show l.take n=l by rw[hn,List.take_length]];show qcc w B 5 g n cap ((l++[]).map qbO)
  rw[List.append_nil];exact hrow)
 have hgn:g≠nb:=hrow.ne hnb (by decide);have hgb:g≠bb:=hrow.ne hbb (by decide);have hgB:B≤g:=hrow.low;replace hn:=Lh hn;replace hrow:=Lh hrow;replace hnb:=Lh hnb;replace hbb:=Lh hbb;go_enter Tryz.func64,Tryz.ntmps64;go_wp2_with fail;go_loopg [1,2,3] (n+1) (fun gk s1 s2 s3 wx=> ∃(j:Nat),j<gk∧j≤n∧s1= .int .u8 ((qcd (l.drop j)).2:Int)∧s2= .int .i64 ((j:Int) - 1)∧Hid (qcc wx B 5 g n cap ((l.take j++(qcd (l.drop j)).1).map qbO))∧Hid (wx.heap[nb]?=w.heap[nb]?)∧Hid (wx.heap[bb]?=w.heap[bb]?)∧Hid (Below B w wx))
 case atStart=>exact⟨n,by omega,by omega,by rw[D0.out];rfl,by go_num,I0,Lh rfl,Lh rfl,Lh (Below.refl _ _)⟩
 case round=>
  obtain⟨j,hjg,hjn,rfl,rfl,I,N1,N2,BB⟩:=hrel;have hnbw:Hid (wr.heap[nb]?=some (.cells #[.slice (some ⟨g,0,none⟩) n cap] 78 (0,0))):=Lh (by rw[N1.out,hnb.out,←hn.out]);have hc1:wr.cell? ⟨nb,0,none⟩=some (.slice (some ⟨g,0,none⟩) n cap):=cell_of_heap hnbw.out;clear I0 D0 c1
  by_cases hj:j=0
  ·subst hj;rw[List.drop_zero] at I⊢;rw[List.take_zero,List.nil_append] at I;rw[show(((0:Nat):Int) - 1)= -1 from rfl];obtain⟨d1,d2,d3⟩:=qeV l hd;have hdef:qhQ l=if (qcd l).2=0 then (qcd l).1 else UInt8.ofNat (48+(qcd l).2)::(qcd l).1:=rfl
   obtain⟨r,hr⟩: ∃r,r=(qcd l).2:=⟨_,rfl⟩;obtain⟨T,hT⟩: ∃T,T=(qcd l).1:=⟨_,rfl⟩;rw[←hr,←hT] at hdef;rw[←hr] at d1⊢;rw[←hT] at I d3
   by_cases hr0:r=0
   ·rw[if_pos hr0] at hdef;subst hr0;rw[show((0:Nat):Int)=0 from rfl];have hfin:Hid (qeF wr B nb bb (qhQ l) k∧Below B w wr):=Lh ⟨⟨⟨g,cap,by rw[hdef,d3,←hn.out];exact I.out,by rw[hdef,d3,←hn.out];exact hnbw.out⟩,by rw[N2.out];exact hbb.out⟩,BB.out⟩;clear hdef d1 d2 d3 hr hT hjg hjn;go_wp2_with fail;go_end0;exact⟨rfl,hfin.out⟩
   ·obtain rfl:r=1:=by omega
    rw[if_neg (by decide)] at hdef;rw[show((1:Nat):Int)=1 from rfl]
    have hsz:nb<wr.heap.size:=by
     rcases Nat.lt_or_ge nb wr.heap.size with h|h
     ·exact h
     ·have:=hnbw.out;rw[Array.getElem?_eq_none h] at this;cases this
    have hsb:bb<wr.heap.size:=by
     rcases Nat.lt_or_ge bb wr.heap.size with h|h
     ·exact h
     ·have:=N2.out;rw[Array.getElem?_eq_none h,hbb.out] at this;cases this
    clear hr hT hjg hjn;replace hdef:=Lh hdef;replace d3:=Lh d3;have hI1:(wr.alloc (.cells #[.int .u8 49] 5)).ownsRow B 5 1 (.slice (some ⟨wr.heap.size,0,none⟩) 1 1) 1 [.int .u8 49]:=row_one B wr (.int .u8 49) (by omega)
    have hI2:Row (wr.alloc (.cells #[.int .u8 49] 5)) (.slice (some ⟨g,0,none⟩) n cap) (T.map qbO):=by
     exact qcc.row (I.out.oth (Below.heap_alloc _ _ _ I.out.lt)) rfl
    have hlen:Hid ((T.map qbO).length=n):=Lh (by rw[List.length_map,d3.out,hn.out]);have hbig:(1+(T.map qbO).length)*1≤140737488355328:=by rw[hlen.out];omega
    have hBs:B≤(wr.alloc (.cells #[.int .u8 49] 5)).heap.size:=by simp;omega
    replace hI1:=Lh hI1;replace hI2:=Lh hI2;replace hbig:=Lh hbig;go_wp2_with (at_builtin;go_must (refine qs5 rfl (.tmp 31) (.tmp 32) 78 rfl B 5 (.int .u8 0) 1 Tryz.underlying78 info5 rfl _ 1 _ rfl _ _ rfl hI1.out hI2.out qnX (by omega) hbig.out hBs ?_);rintro v2 w3 hown' hb3 hkeep _;rw[hlen.out] at hown';obtain⟨g2,cap2,rfl⟩:=qlr hown' (by omega);have q1:=qlG hkeep (by omega) hsz hnbw.out;have q2:=qlG hkeep (by omega) hsb (N2.out.trans hbb.out);have q3:=cell_of_heap q1;have q4:=qfc q1;have Q1:=Lh q1;have Q2:=Lh q2;have hown:=Lh hown';have hb4:=Lh hb3;clear hown' hb3 hkeep q1 q2);go_end0;have hg2:g2≠nb:=own_ne hown.out Q1.out (by decide);have hdl:(qhQ l).length=1+n:=by rw[hdef.out,List.length_cons,d3.out,←hn.out,Nat.add_comm]
    have hmap:(qhQ l).map qbO=[.int .u8 49]++T.map qbO:=by rw[hdef.out];rfl
    refine⟨rfl,⟨⟨g2,cap2,?_,?_⟩,?_⟩,?_⟩
    ·rw[hdl,hmap];exact(qcc.of_own hown.out).oth (qaU _ hg2)
    ·rw[hdl];exact qf0 Q1.out _
    ·rw[qaU _ (Ne.symm hne)];exact Q2.out
    ·exact(BB.out.trans (((Below.refl B wr).alloc (by omega) _).trans hb4.out)).setCell hb1 _
  ·obtain⟨i,rfl⟩: ∃i,j=i+1:=⟨j - 1,by omega⟩;rw[show(((i+1:Nat):Int) - 1)=(i:Int) by omega];have hil:i<l.length:=by rw[←hn.out];omega
   have hfz:=I.out.frozen i (Nat.lt_of_lt_of_le (by omega) I.out.cap1);have hat:=qlD l i hil;have hbd:=qeV (l.drop (i+1)) (fun x hx=>hd x (List.mem_of_mem_drop hx))
   have hcell:wr.cell? ⟨g,i,none⟩=some (qbO (l.getD i 0)):=by
    rw[I.out.cell i (by omega)];rw[List.getElem?_map,List.getElem?_append_left (by rw[List.length_take];omega),List.getElem?_take,if_pos (by omega),gZq hil,gZd,gZq hil];rfl
   have hx:=hd (l.getD i 0) (by rw[gZd,gZq hil];exact List.getElem_mem _);obtain⟨c,hc⟩: ∃c,c=l.getD i 0:=⟨_,rfl⟩;obtain⟨r,hr⟩: ∃r,r=(qcd (l.drop (i+1))).2:=⟨_,rfl⟩;rw[←hc] at hat hcell hx;rw[←hr] at hat hbd⊢;obtain⟨x,hxc⟩: ∃x,x=c.toNat:=⟨_,rfl⟩;have hcell2:wr.cell? ⟨g,i,none⟩=some (.int .u8 (x:Int)):=by rw[hcell,hxc];rfl
   rw[←hxc] at hx hat;obtain⟨hx1,hx2⟩:=hx;have hr1:=hbd.1;obtain⟨y,hy⟩: ∃y,y=2*(x - 48)+r:=⟨_,rfl⟩;have y1:(2:Int)*((x:Int) - 48)+(r:Int)=(y:Int):=by omega
   have y2:y≤19:=by omega
   rw[←hy] at hat;have x1:(48:Int)≤x:=by omega
   have x2:(x:Int)≤57:=by omega
   have r1:(r:Int)≤1:=by omega
   have i1:decide ((0:Int)≤(i:Int))=true:=dT (by omega);replace hat:=Lh hat;replace hbd:=Lh hbd;replace hil:=Lh hil;clear hcell hc hr hxc hy;go_wp2_with fail
   have hnext: ∀v:Value,v= .int .u8 (48+(y:Int)%10)→Hid (qcc (wr.setCell ⟨g,i,none⟩ v) B 5 g n cap ((l.take i++(qcd (l.drop i)).1).map qbO)):=by
    intro v hv;have:=I.out.store i v;rw[hat.out];have he:v=qbO (UInt8.ofNat (48+y%10)):=by rw[hv];unfold qbO;rw[qaZ _ (by omega)];rfl
    rw[he] at this⊢;rw[←List.map_set,set_mid l _ i hil.out] at this;exact Lh this
   go_roundg (gk - 1)
   case measure=>omega
   case rel=>exact⟨i,by omega,by omega,by rw[hat.out];go_num,by go_num,hnext _ rfl,Lh ((qaU _ (Ne.symm hgn)).trans N1.out),Lh ((qaU _ (Ne.symm hgb)).trans N2.out),Lh (BB.out.setCell hgB _)⟩
theorem qrH (A l:List UInt8) (i:Nat) (hA:A.length=i) (h:i<l.length) (u:UInt8):(A++l.drop i).set i u=(A++[u])++l.drop (i+1):=by
 rw[List.drop_eq_getElem_cons h,List.set_append_right _ _ (by omega),hA,Nat.sub_self];show A++(u::l.drop (i+1))=_;rw[List.append_assoc];rfl
theorem qla (B nb bb:Nat) (l:List UInt8) (k:Nat) (w:World) (hl:l.length≤2000) (hk:k≤2000) (hd:qaQ l) (h:qeF w B nb bb l k) (hb1:B≤nb) (hb2:B≤bb) (hne:nb≠bb):
 Calls Tryz.prog 65 #[.pointer (some ⟨nb,0,none⟩),.pointer (some ⟨bb,0,none⟩)] w fun e w'=>e= .returned (.tuple #[])∧qeF w' B nb bb (qgo l) (k+qfx l)∧Below B w w':=by
 obtain⟨⟨g,cap,hrow,hnb⟩,hbb⟩:=h;have c1:=cell_of_heap hnb;obtain⟨n,hn⟩: ∃n,n=l.length:=⟨_,rfl⟩;rw[←hn] at hrow c1 hl;have hgn:g≠nb:=hrow.ne hnb (by decide);have hgb:g≠bb:=hrow.ne hbb (by decide);have hgB:B≤g:=hrow.low;have I0:Hid (qcc w B 5 g n cap ((([]:List UInt8)++l.drop 0).map qbO)):=Lh (by rw[List.drop_zero,List.nil_append];exact hrow);replace hn:=Lh hn;replace hrow:=Lh hrow;replace hnb:=Lh hnb;replace hbb:=Lh hbb;go_enter Tryz.func65,Tryz.ntmps65;go_wp2_with fail;go_loopg [2,3,4,7] (n+1) (fun gk s2 s3 s4 s7 wx=> ∃(i r:Nat) (A:List UInt8),n - i<gk∧i≤n∧r≤1∧s2= .int .u8 (r:Int)∧s7= .int .i64 (i:Int)∧Hid (A.length=i)∧Hid (qdp 0 l=(A++(qdp r (l.drop i)).1,(qdp r (l.drop i)).2))∧Hid (qcc wx B 5 g n cap ((A++l.drop i).map qbO))∧Hid (wx.heap[nb]?=w.heap[nb]?)∧Hid (wx.heap[bb]?=w.heap[bb]?)∧Hid (Below B w wx))
 case atStart=>exact⟨0,0,[],by omega,by omega,by omega,rfl,rfl,Lh rfl,Lh (by rw[List.drop_zero];rfl),I0,Lh rfl,Lh rfl,Lh (Below.refl _ _)⟩
 case round=>
  obtain⟨i,r,A,hig,hin,hr1,rfl,rfl,hA,hC,I,N1,N2,BB⟩:=hrel;have hnbw:Hid (wr.heap[nb]?=some (.cells #[.slice (some ⟨g,0,none⟩) n cap] 78 (0,0))):=Lh (by rw[N1.out,hnb.out,←hn.out]);have hc1:wr.cell? ⟨nb,0,none⟩=some (.slice (some ⟨g,0,none⟩) n cap):=cell_of_heap hnbw.out;clear I0 c1
  by_cases hlt:i<n
  ·have hil:i<l.length:=by rw[←hn.out];exact hlt
   have hat:=qmT r l i hil
   have hcell:wr.cell? ⟨g,i,none⟩=some (qbO (l.getD i 0)):=by
    rw[I.out.cell i (by omega)];rw[List.getElem?_map,List.getElem?_append_right (by rw[hA.out];exact Nat.le_refl _),hA.out,Nat.sub_self,List.getElem?_drop,Nat.add_zero,gZq hil,gZd,gZq hil];rfl
   have hfz:=I.out.frozen i (Nat.lt_of_lt_of_le (by omega) I.out.cap1);have hx:=hd (l.getD i 0) (by rw[gZd,gZq hil];exact List.getElem_mem _);obtain⟨c,hc⟩: ∃c,c=l.getD i 0:=⟨_,rfl⟩;rw[←hc] at hat hcell hx;obtain⟨x,hxc⟩: ∃x,x=c.toNat:=⟨_,rfl⟩;have hcell2:wr.cell? ⟨g,i,none⟩=some (.int .u8 (x:Int)):=by rw[hcell,hxc];rfl
   rw[←hxc] at hx hat;obtain⟨hx1,hx2⟩:=hx;obtain⟨y,hy⟩: ∃y,y=10*r+(x - 48):=⟨_,rfl⟩;have y1:(10:Int)*(r:Int)+(x:Int) - 48=(y:Int):=by omega
   have y2:y≤19:=by omega
   rw[←hy] at hat;have x1:(48:Int)≤x:=by omega
   have x2:(x:Int)≤57:=by omega
   have r1:(r:Int)≤1:=by omega
   have i1:decide ((i:Int)<(n:Int))=true:=dT (by omega);have i1':decide (i<n)=true:=dT hlt
   have hC2:Hid (qdp 0 l=((A++[UInt8.ofNat (48+y/2)])++(qdp (y%2) (l.drop (i+1))).1,(qdp (y%2) (l.drop (i+1))).2)):=Lh (by
    have:=hC.out;rw[hat] at this
    rw[this,List.append_assoc];rfl)
   replace hil:=Lh hil;have hA2:Hid ((A++[UInt8.ofNat (48+y/2)]).length=i+1):=Lh (by rw[List.length_append,hA.out];rfl);clear hcell hc hxc hy hat hC;go_wp2_with fail
   have hnext: ∀v:Value,v= .int .u8 (48+(y:Int)/2)→Hid (qcc (wr.setCell ⟨g,i,none⟩ v) B 5 g n cap (((A++[UInt8.ofNat (48+y/2)])++l.drop (i+1)).map qbO)):=by
    intro v hv;have:=I.out.store i v;have he:v=qbO (UInt8.ofNat (48+y/2)):=by rw[hv];unfold qbO;rw[qaZ _ (by omega)];rfl
    rw[he] at this⊢;rw[←List.map_set,qrH A l i hA.out hil.out] at this;exact Lh this
   go_roundg (gk - 1)
   case measure=>omega
   case rel=>exact⟨i+1,y%2,A++[UInt8.ofNat (48+y/2)],by omega,by omega,by omega,by go_num,by go_num,hA2,hC2,hnext _ rfl,Lh ((qaU _ (Ne.symm hgn)).trans N1.out),Lh ((qaU _ (Ne.symm hgb)).trans N2.out),Lh (BB.out.setCell hgB _)⟩
  ·obtain rfl:i=n:=by omega
   have hdr:l.drop i=[]:=List.drop_of_length_le (by rw[hn.out];exact Nat.le_refl _);have hC':=hC.out;have I':=I.out;rw[hdr] at hC' I';have i1:decide ((i:Int)<(i:Int))=false:=dF (by omega);rw[List.append_nil] at I'
   change qdp 0 l=(A++[],r)at hC'
   rw[List.append_nil] at hC';have hdef:qgo l=if r=0 then A else A++[53]:=by unfold qgo;rw[hC']
   have hdeK:qfx l=if r=0 then 0 else 1:=by unfold qfx;rw[hC']
   clear hC I hdr hC'
   by_cases hr0:r=0
   ·rw[if_pos hr0] at hdef hdeK;subst hr0;rw[show((0:Nat):Int)=0 from rfl];have hfin:Hid (qeF wr B nb bb (qgo l) (k+qfx l)∧Below B w wr):=Lh ⟨⟨⟨g,cap,by rw[hdef,hA.out];exact I',by rw[hdef,hA.out];exact hnbw.out⟩,by rw[hdeK,N2.out];exact hbb.out⟩,BB.out⟩;clear hdef hdeK hig I';go_wp2_with fail;go_end0;exact⟨rfl,hfin.out⟩
   ·obtain rfl:r=1:=by omega
    rw[if_neg (by decide)] at hdef hdeK;rw[show((1:Nat):Int)=1 from rfl]
    have hsz:nb<wr.heap.size:=by
     rcases Nat.lt_or_ge nb wr.heap.size with h|h
     ·exact h
     ·have:=hnbw.out;rw[Array.getElem?_eq_none h] at this;cases this
    have hsb:bb<wr.heap.size:=by
     rcases Nat.lt_or_ge bb wr.heap.size with h|h
     ·exact h
     ·have:=N2.out;rw[Array.getElem?_eq_none h,hbb.out] at this;cases this
    have hBs:B≤wr.heap.size:=by omega
    have hk1:(k:Int)≤2000:=by omega
    clear hig;replace hdef:=Lh hdef;replace hdeK:=Lh hdeK;replace I':=Lh I';go_wp2_with (at_builtin;go_must (refine qoK rfl (.tmp 29) (.tmp 30) 78 rfl (u:= .int .u8 53) B (.int .u8 0) Tryz.underlying78 info5 rfl g i cap _ rfl rfl I'.out rfl (by omega) hBs ?_);rintro g2 cap2 w3 hown' hb3 hkeep;have q1:=(hkeep nb (Ne.symm hgn) hsz).trans hnbw.out;have q2:=(hkeep bb (Ne.symm hgb) hsb).trans (N2.out.trans hbb.out);have q3:=cell_of_heap q1;have q4:=qfc q1;have q5:=cell_of_heap q2;have q6:=qfc q2;have Q1:=Lh q1;have Q2:=Lh q2;have hown:=Lh hown';have hb4:=Lh hb3;clear hown' hb3 hkeep q1 q2);go_end0;have hg2:g2≠nb:=hown.out.ne Q1.out (by decide);have hg3:g2≠bb:=hown.out.ne Q2.out (by decide);have hdl:(qgo l).length=i+1:=by rw[hdef.out,List.length_append,hA.out];rfl
    have hmap:(qgo l).map qbO=A.map qbO++[.int .u8 53]:=by rw[hdef.out,List.map_append];rfl
    refine⟨rfl,⟨⟨g2,cap2,?_,?_⟩,?_⟩,?_⟩
    ·rw[hdl,hmap];exact(hown.out.oth (qaU (a:=⟨nb,0,none⟩) _ hg2)).oth (qaU (a:=⟨bb,0,none⟩) _ hg3)
    ·rw[hdl,qaU _ hne];exact qf0 Q1.out _
    ·rw[hdeK.out];exact qf0 ((qaU _ (Ne.symm hne)).trans Q2.out) _
    ·exact((BB.out.trans hb4.out).setCell hb1 _).setCell hb2 _
theorem qmU (w1:World) (B:Nat) (S:ByteArray) (l:List UInt8) (hS:S.data.toList=l) (hB:B≤w1.heap.size) (hl:l.length≤2000):qcc (Lib.bytesWorld w1 5 S) B 5 w1.heap.size l.length (grownCap w1 S.size 0 5) (l.map qbO):=by
 have hz:S.size=l.length:=by rw[←hS];simp
 have hge:=grownCap_ge w1 S.size 0 5;have hcm:=grownCap_le_maxLen w1 S.size 0 5 (by unfold maxLen;omega)
 have hsz:(Lib.bytesCells w1 5 S).size=grownCap w1 S.size 0 5:=by
  unfold Lib.bytesCells;simp;omega
 refine⟨by simp,hB,by omega,hcm,Lib.bytesCells w1 5 S,_,Lib.bytesWorld_at_new w1 5 S,.inr ?_,hsz,?_⟩
 ·show grownCap w1 S.size 0 5≤(Lib.bytesCells w1 5 S).size;omega
 ·unfold Lib.bytesCells;rw[Array.toList_append,Array.toList_map,hS,List.take_append_of_le_length (by simp),List.take_of_length_le (by simp)];rfl
theorem qmJ (w1:World) (B:Nat) (S:ByteArray) (l:List UInt8) (hS:S.data.toList=l) (hB:B≤w1.heap.size) (hl:l.length≤2000) (W2:World) (hW:W2=Lib.bytesWorld w1 5 S):
 qeF ((W2.alloc (.cells #[.slice (some ⟨w1.heap.size,0,none⟩) S.size (grownCap w1 S.size 0 5)] 78)).alloc (.cells #[.int .i64 0] 3)) B W2.heap.size (W2.heap.size+1) l 0∧Below B w1 ((W2.alloc (.cells #[.slice (some ⟨w1.heap.size,0,none⟩) S.size (grownCap w1 S.size 0 5)] 78)).alloc (.cells #[.int .i64 0] 3)):=by
 have hz:S.size=l.length:=by rw[←hS];simp
 have hr:=qmU w1 B S l hS hB hl;rw[←hW] at hr;have h1:W2.heap.size=w1.heap.size+1:=by rw[hW];exact Lib.bytesWorld_size w1 5 S
 have hb:Below B w1 W2:=by rw[hW];exact(Lib.bytesWorld_below w1 5 S).mono hB
 refine⟨⟨⟨w1.heap.size,grownCap w1 S.size 0 5,?_,?_⟩,?_⟩,(hb.alloc (by omega) _).alloc (by simp;omega) _⟩
 ·refine hr.oth ?_;rw[Below.heap_alloc _ _ _ (by simp;omega),Below.heap_alloc _ _ _ (by omega)]
 ·rw[Below.heap_alloc _ _ _ (by simp),hz];show(W2.heap.push _)[W2.heap.size]?=_;exact Array.getElem?_push_size
 ·show((W2.alloc _).heap.push _)[W2.heap.size+1]?=_;have:W2.heap.size+1=(W2.alloc (.cells #[.slice (some ⟨w1.heap.size,0,none⟩) S.size (grownCap w1 S.size 0 5)] 78)).heap.size:=by simp
  rw[this];exact Array.getElem?_push_size
theorem qcc.piece {w:World} {B g n cap:Nat} {l:List UInt8} (h:qcc w B 5 g n cap (l.map qbO)) (hn:n=l.length) (i j:Nat) (hij:i+j≤l.length) (o c:Nat) (ho:o=i∨j=0):
 (convert 78 9 (.slice (some ⟨g,o,none⟩) j c)).run Tryz.prog w= .ok (.string ⟨((l.drop i).take j).toArray⟩) w:=by
 have hl:((l.drop i).take j).length=j:=by rw[List.length_take,List.length_drop];omega
 have:=run_convert_bytes_back (P:=Tryz.prog) w 78 9 5 ⟨g,o,none⟩ c ((l.drop i).take j) Tryz.underlying78 Tryz.underlying5 Tryz.underlying9 (fun k hk=>by
  rw[hl] at hk;rcases ho with rfl|rfl
  ·have:=h.cell (o+k) (by omega);rw[List.getElem?_map,gZq (by omega)] at this;rw[show(⟨g,o,none⟩:Addr).add k=⟨g,o+k,none⟩ by simp[Addr.add],this];simp[qbO]
  ·omega)
 rw[hl] at this;exact this
theorem qnP (F:Nat) (h:F<18446744073709551616):(Lib.decDigits F).length≤20:=by
 have: ∀k F:Nat,0<k→F<10^k→(Lib.decDigits F).length≤k:=by
  intro k
  induction k with
  |zero=>intro F h;omega
  |succ k ih=>
   intro F _ hF;rw[Lib.decDigits]
   split
   ·simp
   ·rename_i h10
    have h1:F/10<10^k:=by rw[Nat.div_lt_iff_lt_mul (by decide)];rw[Nat.pow_succ] at hF;exact hF
    have hk:0<k:=by
     rcases Nat.eq_zero_or_pos k with rfl|hk
     ·simp at hF;omega
     ·exact hk
    have:=ih (F/10) hk h1;simp only[List.length_append,List.length_cons,List.length_nil];omega
 exact this 20 F (by decide) (by omega)
theorem qdo (F:Nat):qaQ (Lib.decDigits F):=by
 induction F using Nat.strongRecOn with
 |_ F ih=>
  rw[Lib.decDigits]
  split
  ·rename_i h
   intro c hc;rw[List.mem_singleton] at hc;subst hc;rw[qaZ _ (by omega)];omega
  ·rename_i h
   intro c hc;rw[List.mem_append] at hc;rcases hc with hc|hc
   ·exact ih (F/10) (by omega) c hc
   ·rw[List.mem_singleton] at hc;subst hc;rw[qaZ _ (by omega)];omega
theorem qmr {a b:ByteArray} (h:a.data.toList=b.data.toList):a=b:=by
 cases a with
 |mk x=>cases b with
  |mk y=>cases x;cases y;simp at h;subst h;rfl
theorem qoj (l:List UInt8):(Lib.trimLeftB l 48).length≤l.length:=(List.dropWhile_suffix _).length_le
theorem qoA (l:List UInt8):(Lib.trimRightB l 48).length≤l.length:=by
 unfold Lib.trimRightB;rw[List.length_reverse];exact Nat.le_trans (List.dropWhile_suffix _).length_le (by simp)
theorem qvN (l:List UInt8) (w:World):Calls Tryz.prog 40 #[.string ⟨l.toArray⟩,.string ⟨#[48]⟩] w fun e w'=>e= .returned (.string ⟨(Lib.trimLeftB l 48).toArray⟩)∧w=w':=
 (Tryz.strings_TrimLeft_one ⟨l.toArray⟩ 48 (by decide) w).mono fun e w' h=>⟨h.1,h.2.symm⟩
theorem qv4 (l:List UInt8) (hl:l.length≤2000) (w:World):Calls Tryz.prog 66 #[.string ⟨l.toArray⟩,.string ⟨#[48]⟩] w fun e w'=>e= .returned (.string ⟨(Lib.trimRightB l 48).toArray⟩)∧w=w':=
 (Tryz.strings_TrimRight_one ⟨l.toArray⟩ 48 (by decide) w (by show l.toArray.size≤_;simp;omega)).mono fun e w' h=>⟨h.1,h.2.symm⟩
def exE (v:Nat):Nat:=if v/4503599627370496%2048=0 then 1 else v/4503599627370496%2048
def exF (v:Nat):Nat:=if v/4503599627370496%2048=0 then v%4503599627370496 else 4503599627370496+v%4503599627370496
def exD (v:Nat):List UInt8×Nat:=if 0<exF v then qq6 (1075 - exE v) (qnn (exE v - 1075) (Lib.decDigits (exF v))) 0 else (qnn (exE v - 1075) (Lib.decDigits (exF v)),0)
def exW (v:Nat):List UInt8:=Lib.trimLeftB ((exD v).1.take ((exD v).1.length - (exD v).2)) 48
def exT (v:Nat):List UInt8:=Lib.trimRightB ((exD v).1.drop ((exD v).1.length - (exD v).2)) 48
def qaw (v:Nat):List UInt8:=
 if kindN v=4 then [78,97,78] else if kindN v=3 then (if 9223372036854775808≤v then [45,73,110,102] else [43,73,110,102])
 else (if 9223372036854775808≤v then [45] else [])++((if exW v=[] then [48] else exW v)++(if exT v=[] then [] else 46::exT v))
theorem qnd (v:Nat) (hv:v<18446744073709551616) (w:World) (htab:Lib.TabIs Tryz.prog w "internal/strconv.uint64pow10" .u64 Lib.pow10Tab):
 Calls Tryz.prog 25 #[.int .u64 v] w fun e w'=>e= .returned (.string ⟨(qaw v).toArray⟩)∧Below w.heap.size w w':=by
 have c:=Lh (qiJ v hv w);have hmf: ∀(fn:Fn) (first cap:Array Value) (w:World),(Instr.makeFunc fn first cap).run Tryz.prog w= .ok (.func fn first cap) w:=fun _ _ _ _=>rfl
 have cp:=Lh (qgO v hv w);have hx2:v/4503599627370496%2048<2048:=Nat.mod_lt _ (by decide);have hy2:v%4503599627370496<4503599627370496:=Nat.mod_lt _ (by decide);have tb:=qrV v hv
 by_cases g1:kindN v=4
 ·have hfin:qaw v=[78,97,78]:=by unfold qaw;rw[if_pos g1]
  rw[hfin];rw[g1] at c;clear g1 hfin cp tb;go_enter Tryz.func25,Tryz.ntmps25;go_wp2_with fail;refine c.out.mono ?_;rintro z w1 ⟨rfl,rfl⟩;go_wp2_with fail;go_ret;exact⟨rfl,Below.refl _ _⟩
 ·by_cases g2:kindN v=3
  ·have hfin:qaw v=if 9223372036854775808≤v then [45,73,110,102] else [43,73,110,102]:=by unfold qaw;rw[if_neg g1,if_pos g2]
   rw[hfin];rw[g2] at c;clear g1 g2 hfin cp
   by_cases gs:9223372036854775808≤v
   ·rw[if_pos gs] at tb⊢;clear gs;go_enter Tryz.func25,Tryz.ntmps25;go_wp2_with fail;refine c.out.mono ?_;rintro z w1 ⟨rfl,rfl⟩;go_wp2_with fail;go_ret;exact⟨rfl,Below.refl _ _⟩
   ·rw[if_neg gs] at tb⊢;clear gs;go_enter Tryz.func25,Tryz.ntmps25;go_wp2_with fail;refine c.out.mono ?_;rintro z w1 ⟨rfl,rfl⟩;go_wp2_with fail;go_ret;exact⟨rfl,Below.refl _ _⟩
  ·have hfin:=Lh (show qaw v=(if 9223372036854775808≤v then [45] else [])++((if exW v=[] then [48] else exW v)++(if exT v=[] then [] else 46::exT v)) by unfold qaw;rw[if_neg g1,if_neg g2]);replace tb:=Lh tb;have u1:((kindN v:Int)==4)=false:=by simp;omega
   have u2:((kindN v:Int)==3)=false:=by simp;omega
   obtain⟨k,hk⟩: ∃k,k=kindN v:=⟨_,rfl⟩;rw[←hk] at c u1 u2;clear g1 g2 hk;obtain⟨x,hx⟩: ∃x,x=v/4503599627370496%2048:=⟨_,rfl⟩;obtain⟨y,hy⟩: ∃y,y=v%4503599627370496:=⟨_,rfl⟩;obtain⟨E,hE⟩: ∃E,E=exE v:=⟨_,rfl⟩;obtain⟨F,hF⟩: ∃F,F=exF v:=⟨_,rfl⟩;have hEF:Hid (E=(if x=0 then 1 else x)∧F=(if x=0 then y else 4503599627370496+y)):=Lh ⟨by rw[hE,hx];rfl,by rw[hF,hx,hy];rfl⟩;rw[←hx,←hy] at cp;rw[←hx] at hx2;rw[←hy] at hy2;replace hE:=Lh hE;replace hF:=Lh hF;clear hx hy;go_enter Tryz.func25,Tryz.ntmps25;go_wp2_with fail;refine c.out.mono ?_;rintro z w1 ⟨rfl,rfl⟩;go_wp2_with fail;refine cp.out.mono ?_;rintro z w1 ⟨rfl,rfl⟩;go_upto_if 26 with (fail)
   go_cut [3,4] (fun s3 s4 wx=>s3= .int .i64 (E:Int)∧s4= .int .u64 (F:Int)∧w=wx)
   case first=>
    by_cases g:x=0
    ·have hh:=hEF.out;rw[if_pos g,if_pos g] at hh;obtain⟨rfl,rfl⟩:=hh;have u3:((x:Int)==0)=true:=by simp[g]
     clear g hEF hE hF;go_wp2_with fail;go_meet;exact⟨rfl,rfl,rfl⟩
    ·have hh:=hEF.out;rw[if_neg g,if_neg g] at hh;obtain⟨h1,h2⟩:=hh;have u3:((x:Int)==0)=false:=by simp;exact g
     have b1:bits .or .u64 (y:Int) 4503599627370496=(F:Int):=by
      rw[h2];refine Eq.trans (u64_or_nat y 4503599627370496 (by omega) (by decide)) ?_;have:=Nat.two_pow_add_eq_or_of_lt (i:=52) hy2 1;rw[Nat.mul_one,Nat.or_comm] at this;exact congrArg _ this.symm
     have H1:=Lh h1;clear g hEF hE hF h2 h1;go_wp2_with fail;go_meet;exact⟨by rw[H1.out],rfl,rfl⟩
   case rest=>
    obtain⟨rfl,rfl,rfl⟩:=hcut;have hF1:F<18446744073709551616:=by have:=hEF.out.2;split at this<;>omega
    have hE1:1≤E∧E≤2047:=by have:=hEF.out.1;split at this<;>omega
    obtain⟨hE1,hE2⟩:=hE1;have cf:=Lh (qvG F hF1 w htab);clear hEF hx2 hy2 c cp u1 u2;go_wp2_with fail;refine cf.out.mono ?_;rintro z w1 ⟨rfl,hB⟩;obtain⟨S,hS⟩: ∃S:ByteArray,Hid (S=⟨(Lib.decDigits F).toArray⟩):=⟨_,Lh rfl⟩;rw[←hS.out];have hcv:=Lib.run_convert_string_bytes (P:=Tryz.prog) w1 9 78 5 S Tryz.underlying9 Tryz.underlying78 Tryz.underlying5;obtain⟨W2,hW2⟩: ∃W2,W2=Lib.bytesWorld w1 5 S:=⟨_,rfl⟩;obtain⟨cp0,hcp0⟩: ∃cp0,cp0=grownCap w1 S.size 0 5:=⟨_,rfl⟩;obtain⟨g0,hg0⟩: ∃g0,g0=w1.heap.size:=⟨_,rfl⟩;rw[←hW2,←hcp0,←hg0] at hcv;have hdl:(Lib.decDigits F).length≤20:=qnP F hF1;have hdg:qaQ (Lib.decDigits F):=qdo F;obtain⟨hN,hB3⟩:=qmJ w1 w.heap.size S (Lib.decDigits F) (by rw[hS.out]) hB.size (by omega) W2 hW2;rw[←hcp0,←hg0] at hN hB3;obtain⟨nb,hnb⟩: ∃nb,nb=W2.heap.size:=⟨_,rfl⟩;have hnbB:w.heap.size≤nb:=by rw[hnb,hW2,Lib.bytesWorld_size];have:=hB.size;omega
    rw[←hnb] at hN;obtain⟨W3,hW3⟩: ∃W3,W3=(W2.alloc (.cells #[.slice (some ⟨g0,0,none⟩) S.size cp0] 78)).alloc (.cells #[.int .i64 0] 3):=⟨_,rfl⟩;rw[←hW3] at hN hB3;replace hnb:=Lh hnb;replace hW3:=Lh hW3;replace hN:=Lh hN;replace hB3:=Lh (hB.trans (hB3.mono (Nat.le_refl _)));replace hB:=Lh hB;replace hW2:=Lh hW2;replace hcp0:=Lh hcp0;replace hg0:=Lh hg0;go_wp2_with fail;rw[←hW3.out,←hnb.out];obtain⟨L0,hL0⟩: ∃L0,Hid (L0=qnn (E - 1075) (Lib.decDigits F)):=⟨_,Lh rfl⟩;go_loopg [3] (E+1) (fun gk s3 wx=> ∃(e:Nat) (l:List UInt8),e<gk∧s3= .int .i64 (e:Int)∧e≤E∧min E 1075≤e∧l.length≤20+(E - e)∧Hid (qaQ l)∧Hid (qnn (e - 1075) l=L0)∧Hid (qeF wx w.heap.size nb (nb+1) l 0)∧Hid (Below w.heap.size w wx))
    case atStart=>exact⟨E,_,by omega,rfl,by omega,by omega,by omega,Lh hdg,Lh hL0.out.symm,hN,hB3⟩
    case round=>
     obtain⟨e,l,heg,rfl,heE,hem,hll,hDg,hDb,hNA,hBB⟩:=hrel
     by_cases h75:1075<e
     ·have u5:decide ((1075:Int)<(e:Int))=true:=dT (by omega);have u5':decide (1075<e)=true:=dT h75;have hdc:=Lh (qjA w.heap.size nb (nb+1) l 0 wr (by omega) hDg.out hNA.out hnbB (by omega));go_wp2_with fail;refine hdc.out.mono ?_;rintro z w4 ⟨rfl,hN2,hb2⟩;have hNn:=Lh hN2;have hBn:=Lh (hBB.out.trans hb2);have hl2:=qk2 l hDg.out
      have hs2:Hid (qnn (e - 1 - 1075) (qhQ l)=L0):=Lh (by
       have:=hDb.out;rw[show e - 1075=(e - 1 - 1075)+1 by omega] at this
       exact this)
      obtain⟨hl3,hl4,hl5⟩:=hl2;replace hl3:=Lh hl3;clear hN2 hb2 hdc;go_wp2_with fail;go_roundg (gk - 1)
      case measure=>omega
      case rel=>exact⟨e - 1,qhQ l,by omega,by go_num,by omega,by omega,by omega,hl3,hs2,hNn,hBn⟩
     ·have u5:decide ((1075:Int)<(e:Int))=false:=dF (by omega);have u5':decide (1075<e)=false:=dF h75
      have hlL:l=L0:=by
       have:=hDb.out;rw[show e - 1075=0 by omega] at this;exact this
      subst hlL;go_upto_block 3 with (fail)
      obtain⟨R,hR⟩: ∃R:List UInt8×Nat,Hid (R=if 0<F then qq6 (1075 - e) l 0 else (l,0)):=⟨_,Lh rfl⟩;go_cut [3] (fun _ wx=>Hid (∃(l2:List UInt8) (q:Nat),R=(l2,q)∧q≤l2.length∧l2.length≤2000∧qaQ l2∧qeF wx w.heap.size nb (nb+1) l2 q∧Below w.heap.size w wx))
      case first=>
       go_wp2_with fail;go_loopg [3] 1076 (fun gk s3 wx=> ∃(f q:Nat) (l2:List UInt8),1075 - f<gk∧s3= .int .i64 (f:Int)∧e≤f∧f≤1075∧q≤f - e∧q≤l2.length∧l2.length≤20+(E - e)+(f - e)∧Hid (qaQ l2)∧Hid ((if 0<F then qq6 (1075 - f) l2 q else (l2,q))=R)∧Hid (qeF wx w.heap.size nb (nb+1) l2 q)∧Hid (Below w.heap.size w wx))
       case atStart=>exact⟨e,0,l,by omega,rfl,by omega,by omega,by omega,by omega,by omega,hDg,Lh hR.out.symm,hNA,hBB⟩
       case round=>
        obtain⟨f,q,l2,hfg,rfl,hef,hf75,hqf,hql0,hl2,hDg2,hR2,hNA2,hBB2⟩:=hrel
        by_cases hgo:f<1075∧0<F
        ·obtain⟨h75f,hF0⟩:=hgo;have u6:decide ((f:Int)<1075)=true:=dT (by omega);have u6':decide (f<1075)=true:=dT h75f;have u7:decide ((0:Int)<(F:Int))=true:=dT (by omega);have u7':decide (0<F)=true:=dT hF0;have hhc:=Lh (qla w.heap.size nb (nb+1) l2 q wr (by omega) (by omega) hDg2.out hNA2.out hnbB (by omega) (by omega));go_wp2_with fail;refine hhc.out.mono ?_;rintro z w4 ⟨rfl,hN2,hb2⟩;have hNn:=Lh hN2;have hBn:=Lh (hBB2.out.trans hb2);obtain⟨hl3,hl4⟩:=qmz l2 hDg2.out;have hk1:qfx l2≤1:=by unfold qfx;split<;>omega
         have hs2:Hid ((if 0<F then qq6 (1075 - (f+1)) (qgo l2) (q+qfx l2) else (qgo l2,q+qfx l2))=R):=Lh (by
          have:=hR2.out;rw[if_pos hF0,show 1075 - f=(1075 - (f+1))+1 by omega] at this
          rw[if_pos hF0];exact this)
         replace hl3:=Lh hl3;replace hl4:(qgo l2).length≤l2.length+1∧q+qfx l2≤(qgo l2).length:=⟨by omega,by omega⟩;obtain⟨hl4,hl5⟩:=hl4;clear hN2 hb2 hhc;go_wp2_with fail;go_roundg (gk - 1)
         case measure=>omega
         case rel=>exact⟨f+1,q+qfx l2,qgo l2,by omega,by go_num,by omega,by omega,by omega,by omega,by omega,hl3,hs2,hNn,hBn⟩
        ·have hRl:R=(l2,q):=by
          have:=hR2.out
          by_cases h0:0<F
          ·rw[if_pos h0,show 1075 - f=0 by omega] at this;exact this.symm
          ·rw[if_neg h0] at this;exact this.symm
         have hfin:Hid (∃(l2:List UInt8) (q:Nat),R=(l2,q)∧q≤l2.length∧l2.length≤2000∧qaQ l2∧qeF wr w.heap.size nb (nb+1) l2 q∧Below w.heap.size w wr):=Lh ⟨l2,q,hRl,hql0,by omega,hDg2.out,hNA2.out,hBB2.out⟩;clear hRl hR2
         by_cases h75f:f<1075
         ·have u6:decide ((f:Int)<1075)=true:=dT (by omega);have u6':decide (f<1075)=true:=dT h75f;have u7:decide ((0:Int)<(F:Int))=false:=dF (by omega);have u7':decide (0<F)=false:=dF (by omega);clear hgo;go_wp2_with fail;go_meet;exact hfin
         ·have u6:decide ((f:Int)<1075)=false:=dF (by omega);have u6':decide (f<1075)=false:=dF h75f;clear hgo;go_wp2_with fail;go_meet;exact hfin
      case rest=>
       obtain⟨l2,q,hRq,hql,hl2k,hDg2,hNA2,hBB2⟩:=hcut.out;obtain⟨⟨g,cap,hrow,hnbc⟩,hbeh⟩:=hNA2;have hcap:=hrow.cap1;have hcapm:=hrow.cap2;have c5:=cell_of_heap hnbc;have c6:=cell_of_heap hbeh;have p1:=hrow.piece rfl 0 (l2.length - q) (by omega) 0 cap (.inl rfl);have hRh:=Lh hRq;have hBh:=Lh hBB2;have hRowh:=Lh hrow;clear hRq hBB2 hrow hNA hBB hcut hnbc hbeh hDg2;have t1:=Lh (fun W=>qvN (List.take (l2.length - q) (List.drop 0 l2)) W);go_wp2_with fail;refine(t1.out _).mono ?_;rintro z w4 ⟨rfl,rfl⟩;obtain⟨A,hA⟩: ∃A,Hid (A=Lib.trimLeftB (List.take (l2.length - q) (List.drop 0 l2)) 48):=⟨_,Lh rfl⟩;rw[←hA.out];clear t1 p1;go_upto_if 59 with (fail)
       obtain⟨X,hX⟩: ∃X:List UInt8,Hid (X=if A=[] then [48] else A):=⟨_,Lh rfl⟩;obtain⟨bA,hbA⟩: ∃b,Hid (A.isEmpty=b):=⟨_,Lh rfl⟩;rw[hbA.out];go_cut [9] (fun s9 wx=>s9= .string ⟨X.toArray⟩∧wc=wx)
       case first=>
        cases bA
        ·have hX3:Hid (X=A):=Lh (by rw[hX.out,if_neg (fun e=>by have:=hbA.out;rw[e] at this;cases this)]);clear hX hbA hA;go_wp2_with fail;go_meet;exact⟨by rw[hX3.out],rfl⟩
        ·have hX3:Hid (X=[48]):=Lh (by rw[hX.out,if_pos (List.isEmpty_iff.1 hbA.out)]);clear hX hbA hA;go_wp2_with fail;go_meet;exact⟨by rw[hX3.out],rfl⟩
       case rest=>
        obtain⟨rfl,rfl⟩:=hcut;obtain⟨T,hT⟩: ∃T,Hid (T=Lib.trimRightB (List.drop (l2.length - q) l2) 48):=⟨_,Lh rfl⟩;have t2:=Lh (fun W=>qv4 (List.drop (l2.length - q) l2) (by rw[List.length_drop];omega) W);rw[←hT.out] at t2;go_upto_region 25 with (fail)
        go_cut [10] (fun s10 wx=>s10= .string ⟨T.toArray⟩∧wc=wx)
        case first=>
         by_cases hcq:cap=l2.length - q
         ·have p2:=hRowh.out.piece rfl (l2.length - q) (l2.length - (l2.length - q)) (by omega) 0 0 (.inr (by omega));rw[List.take_of_length_le (by rw[List.length_drop];omega)] at p2;clear hRowh hA hX hT;go_wp2_with fail;refine(t2.out _).mono ?_;rintro z w4 ⟨rfl,rfl⟩;go_wp2_with fail;go_meet;exact⟨rfl,rfl⟩
         ·have p2:=hRowh.out.piece rfl (l2.length - q) (l2.length - (l2.length - q)) (by omega) (l2.length - q) (cap - (l2.length - q)) (.inl rfl);rw[List.take_of_length_le (by rw[List.length_drop];omega)] at p2;clear hRowh hA hX hT;go_wp2_with fail;refine(t2.out _).mono ?_;rintro z w4 ⟨rfl,rfl⟩;go_wp2_with fail;go_meet;exact⟨rfl,rfl⟩
        case rest=>
         obtain⟨rfl,rfl⟩:=hcut;clear t2 hRowh c5 c6 hcap hcapm;obtain⟨Y,hY⟩: ∃Y:List UInt8,Hid (Y=X++if T=[] then [] else 46::T):=⟨_,Lh rfl⟩
         have hXl:X.length≤2001:=by
          have:=qoj (List.take (l2.length - q) (List.drop 0 l2));rw[←hA.out,List.length_take,List.drop_zero] at this;rw[hX.out];split
          ·simp
          ·omega
         have hTl:T.length≤2000:=by
          have:=qoA (List.drop (l2.length - q) l2);rw[←hT.out,List.length_drop] at this;omega
         have hYl:Y.length≤4002:=by
          rw[hY.out,List.length_append];split
          ·simp;omega
          ·simp;omega
         obtain⟨bT,hbT⟩: ∃b,Hid (T.isEmpty=b):=⟨_,Lh rfl⟩;go_upto_if 69 with (fail)
         rw[hbT.out];go_cut [9] (fun s9 wx=>s9= .string ⟨Y.toArray⟩∧wc=wx)
         case first=>
          cases bT
          ·have hY3:Hid ((⟨X.toArray⟩:ByteArray)++((⟨#[46]⟩:ByteArray)++⟨T.toArray⟩)=⟨Y.toArray⟩):=Lh (by rw[hY.out,if_neg (fun e=>by have:=hbT.out;rw[e] at this;cases this)];apply qmr;simp);clear hX hbA hA hbT hT hY;go_wp2_with fail;go_meet;exact⟨by rw[←hY3.out],rfl⟩
          ·have hY3:Hid (Y=X):=Lh (by rw[hY.out,if_pos (List.isEmpty_iff.1 hbT.out),List.append_nil]);clear hX hbA hA hbT hT hY;go_wp2_with fail;go_meet;exact⟨by rw[hY3.out],rfl⟩
         case rest=>
          obtain⟨rfl,rfl⟩:=hcut
          have hall:Hid (qaw v=(if 9223372036854775808≤v then [45] else [])++Y):=Lh (by
           have eF:=hF.out;have eE:=hE.out
           have eR:exD v=(l2,q):=by
            rw[←hRh.out,hR.out];unfold exD;rw[←eF,←eE,hL0.out,show 1075 - E=1075 - e by omega]
           have eW:exW v=A:=by unfold exW;rw[eR,hA.out];rfl
           have eT:exT v=T:=by unfold exT;rw[eR,hT.out]
           rw[hfin.out,eW,eT,hY.out,hX.out])
          clear hX hbA hA hbT hT hY hR hRh hE hF hL0 hDb hfin
          by_cases gs:9223372036854775808≤v
          ·have hx:Hid ((⟨#[45]⟩:ByteArray)++⟨Y.toArray⟩=⟨(qaw v).toArray⟩):=Lh (by rw[hall.out,if_pos gs];apply qmr;simp);replace tb:bits .and .u64 (v:Int) 9223372036854775808=9223372036854775808:=by rw[tb.out,if_pos gs]
           clear gs hall;go_wp2_with fail;go_ret;exact⟨Eq.trans (b:=Ending.returned (.string ((⟨#[45]⟩:ByteArray)++⟨Y.toArray⟩))) rfl (by rw[hx.out]),hBh.out⟩
          ·have hx:Hid ((⟨Y.toArray⟩:ByteArray)=⟨(qaw v).toArray⟩):=Lh (by rw[hall.out,if_neg gs];rfl);replace tb:bits .and .u64 (v:Int) 9223372036854775808=0:=by rw[tb.out,if_neg gs]
           clear gs hall;go_wp2_with fail;go_ret;exact⟨Eq.trans (b:=Ending.returned (.string (⟨Y.toArray⟩:ByteArray))) rfl (by rw[hx.out]),hBh.out⟩
theorem qil (c:UInt8) (w:World):Calls Tryz.prog 286 #[.int .u8 (c.toNat:Int)] w fun e w'=>e= .returned (.int .u8 (((c.toNat ||| 32:Nat)):Int))∧w=w':=by
 have h:=u8_or_nat c.toNat 32 c.toNat_lt (by decide);have h2:bits .or .u8 (c.toNat:Int) 32=((c.toNat ||| 32:Nat):Int):=h;have l:=c.toNat_lt;generalize c.toNat=n at*;go_enter Tryz.func286,Tryz.ntmps286;go_wp2;go_ret;exact⟨rfl,rfl⟩
def dig (c:Nat):Prop:=46≤c∧c≤57
theorem qpW (t:ByteArray) (h:0<t.size) (hs:t.size≤2000) (hc:dig (bt t 0).toNat) (w:World):Calls Tryz.prog 291 #[.string t,.string ⟨#[105,110,102,105,110,105,116,121]⟩] w fun e w'=>e= .returned (.int .i64 0)∧w=w':=by
 obtain⟨c,hcc,hB⟩:=qbG t 0 h;rw[hcc.out] at hc;have v1:decide ((65:Int)≤(c.toNat:Int))=false:=by have:=hc.2;exact dF (by omega)
 have v1':decide (65≤c.toNat)=false:=by have:=hc.2;exact dF (by omega)
 have v2:((c.toNat:Int) !=(((⟨#[105,110,102,105,110,105,116,121]⟩:ByteArray)[0]'(by decide)).toNat:Int))=true:=by
  have:=hc.2;show((c.toNat:Int) !=105)=true;simp;omega
 obtain⟨m,hm⟩: ∃m:Nat,Hid (m=min 8 t.size):=⟨_,Lh rfl⟩;have hm1:min (8:Int) (t.size:Int)=(m:Int):=by rw[hm.out];omega
 have hm0:0<m:=by rw[hm.out];omega
 have hm0':(0:Int)<m:=by omega
 clear hc hcc;go_enter Tryz.func291,Tryz.ntmps291;go_wp2_with fail;go_loop [4,6,7] (fun s4 s6 s7=>s4= .int .i64 0∧s6= .int .i64 0) (fun _ _ _=>0)
 case atStart=>exact⟨rfl,rfl⟩
 case round=>
  obtain⟨rfl,rfl⟩:=hrel;go_wp2_with fail;go_ret;exact⟨rfl,rfl⟩
theorem ext_list (s:ByteArray) (k:Nat):(s.extract k s.size).data.toList=s.data.toList.drop k:=by
 have h:s.data.size=s.size:=rfl;rw[ByteArray.data_extract,Array.toList_extract,List.extract_eq_take_drop,List.take_of_length_le];rw[List.length_drop,Array.length_toList];omega
theorem qqa (s:ByteArray) (k i:Nat):bt (s.extract k s.size) i=bt s (k+i):=by
 unfold bt;rw[ext_list];simp[gZd,List.getElem?_drop]
theorem ext_size (s:ByteArray) (k:Nat):(s.extract k s.size).size=s.size - k:=by
 have:(s.extract k s.size).data.toList.length=(s.data.toList.drop k).length:=by rw[ext_list]
 simp at this⊢
theorem qm1 (s:ByteArray) (a:Nat) (ng:Bool) (h:a<s.size) (hs:s.size≤2000) (S:(a=0)∨(a=1∧((ng=false∧bt s 0=43)∨(ng=true∧bt s 0=45)))) (hc:dig (bt s a).toNat) (w:World):Calls Tryz.prog 273 #[.string s] w fun e w'=>e= .returned (.tuple #[.float .f64 0,.int .i64 0,.bool false])∧w=w':=by
 have h0:0<s.size:=by omega
 have tE: ¬s=ByteArray.empty:=fun e=>by rw[e] at h0;exact absurd h0 (by decide)
 have t0:((s.size:Int)==0)=false:=by simp;omega
 obtain⟨c,hcc,hB⟩:=qbG s 0 h0;rcases S with rfl|⟨rfl,⟨rfl,g⟩|⟨rfl,g⟩⟩
 ·rw[hcc.out] at hc;have v1:((c.toNat:Int)==43)=false:=by have:=hc.1;simp;omega
  have v2:((c.toNat:Int)==45)=false:=by have:=hc.1;simp;omega
  have v3:((c.toNat:Int)==105)=false:=by have:=hc.2;simp;omega
  have v4:((c.toNat:Int)==73)=false:=by have:=hc.2;simp;omega
  have v5:((c.toNat:Int)==110)=false:=by have:=hc.2;simp;omega
  have v6:((c.toNat:Int)==78)=false:=by have:=hc.2;simp;omega
  clear hc hcc;go_enter Tryz.func273,Tryz.ntmps273;go_wp2_with fail;go_ret3;exact⟨rfl,rfl⟩
 ·obtain rfl:c=43:=hcc.out.symm.trans g;rw[show(((43:UInt8).toNat:Int))=43 from rfl] at hB;clear hcc g;have hcp:=Lh (qpW (s.extract 1 s.size) (by rw[ext_size];omega) (by rw[ext_size];omega) (by rw[qqa];exact hc) w);clear hc;go_enter Tryz.func273,Tryz.ntmps273;go_wp2_with fail;refine hcp.out.mono ?_;rintro x w1 ⟨rfl,rfl⟩;go_wp2_with fail;go_ret3;exact⟨rfl,rfl⟩
 ·obtain rfl:c=45:=hcc.out.symm.trans g;rw[show(((45:UInt8).toNat:Int))=45 from rfl] at hB;clear hcc g;have hcp:=Lh (qpW (s.extract 1 s.size) (by rw[ext_size];omega) (by rw[ext_size];omega) (by rw[qqa];exact hc) w);clear hc;go_enter Tryz.func273,Tryz.ntmps273;go_wp2_with fail;refine hcp.out.mono ?_;rintro x w1 ⟨rfl,rfl⟩;go_wp2_with fail;go_ret3;exact⟨rfl,rfl⟩
end Go.Proofs.YtdeimnnpcfncpaaGreatDoor
