/- Parts of the proof: X1 X2 W1 KB KM. -/
import Derived.Carry
import Derived.Test.YtdeimnnpcfncpaaGreatDoorRows
import Derived.ProofKit
import Derived.LaidMore
import Derived.OpenShut
import Derived.Lib.LaidTab
import Derived.Lib.LaidU8
import Derived.Stop.LaidErr
import Derived.MakeChecks
import Derived.HandedShaped
import Derived.Lay
import Derived.Shelf.Vars
import Derived.Test.YtdeimnnpcfncpaaGreatDoorCT18
import Derived.Test.YtdeimnnpcfncpaaGreatDoorCT19
set_option linter.unusedVariables false
set_option linter.unusedSimpArgs false
set_option maxRecDepth 100000
set_option maxHeartbeats 64000000
namespace Go.Proofs.YtdeimnnpcfncpaaGreatDoor
open Go Go.RowKit
def dgT (c:UInt8):UInt8:=UInt8.ofNat (48+c.toNat%10)
def tx (l:List UInt8) (i:Nat):List UInt8:=if i=0 then [48] else (l.take i).map dgT
def BS (l:List UInt8):ByteArray:=⟨l.toArray⟩
theorem qac (l:List UInt8):(BS l).size=l.length:=by unfold BS;show l.toArray.size=_;simp
theorem qaL (a b:List UInt8):BS a++BS b=BS (a++b):=by apply qbm;simp[BS]
theorem qk3 {P:Program} {w w':World} {n:String} {k:IntKind} {zs:List Int} (h:Lib.TabIs P w n k zs) (hb:Below w.heap.size w w'):Lib.TabIs P w' n k zs:=by
 unfold Lib.TabIs World.var? at*
 cases hg:P.globalNamed n with
 |none=>rw[hg] at h;cases h
 |some g=>
  rw[hg] at h;simp only[Option.bind_some] at h⊢
  have hlt:g<w.heap.size:=by
   rcases Nat.lt_or_ge g w.heap.size with h'|h'
   ·exact h'
   ·rw[Array.getElem?_eq_none h'] at h;cases h
  rw[hb.block g hlt];exact h
structure qp7 (w:World):Prop where
 p:qmV w
 tab:Lib.TabIs Tryz.prog w "internal/strconv.uint64pow10" .u64 Lib.pow10Tab
theorem qp7.on {w W:World} (h:qp7 w) (hb:Below w.heap.size w W):qp7 W:=⟨h.p.on hb,qk3 h.tab hb⟩
structure qrj (w:World):Prop where
 a:qp7 w
 m: ∃m:Int,w.cell? ⟨0,0,none⟩=some (.int .i64 m)
theorem qrj.on {w W:World} (h:qrj w) (hb:Below w.heap.size w W):qrj W:=by
 refine⟨h.a.on hb,?_⟩;obtain⟨m,hm⟩:=h.m;exact⟨m,by rw[hb.cell (p:=⟨0,0,none⟩) (by have:=h.a.p.f.big;show 0<_;omega)];exact hm⟩
theorem qr4 {a:Int} (h:(Lit.int .u8 a).wf=true): ∃n:Nat,a=(n:Int)∧n<256:=by
 simp[Lit.wf,IntKind.min,IntKind.max,IntKind.signed,IntKind.bits] at h;exact⟨a.toNat,by omega,by omega⟩
def IsRow (k:IntKind) (w:World) (a:Option Addr) (len cap:Nat) (zs:List Int):Prop:=
 (a=none∧len=0∧cap=0∧zs=[])∨
 ∃x,a=some x∧len≤cap∧cap≤maxLen∧zs.length=cap∧(∀i,i<zs.length→w.cell? (x.add i)=some (.int k (zs.getD i 0)))∧ ∀n∈zs,(Lit.int k n).wf=true
theorem IsRow.row {k:IntKind} {w:World} {a:Option Addr} {len cap:Nat} {zs:List Int} (h:IsRow k w a len cap zs):Row w (.slice a len cap) ((zs.take len).map (Value.int k))∧(zs.take len).length=len∧len≤maxLen∧(∀z∈zs.take len,(Lit.int k z).wf=true):=by
 rcases h with ⟨rfl,rfl,rfl,rfl⟩|⟨⟨b,off,spot⟩,rfl,h1,h2,h3,hc,hz⟩
 ·exact⟨.inl ⟨none,0,fun _=>rfl,rfl,rfl⟩,rfl,by decide,fun z h=>by simp at h⟩
 ·refine⟨?_,by rw[List.length_take];omega,by omega,fun z h=>hz z (List.mem_of_mem_take h)⟩
  by_cases h0:len=0
  ·subst h0;exact .inl ⟨_,cap,(fun h=>by cases h),rfl,by simp⟩
  ·have hs0:=hc 0 (by omega);have hspot:spot=none:=by simpa [Addr.add] using World.cell?_spot hs0
   subst hspot;have hl:((zs.take len).map (Value.int k)).length=len:=by simp;omega
   refine .inr ⟨b,off,cap,by rw[hl],?_,by omega,h2,fun i hi=>?_⟩
   ·rcases Nat.lt_or_ge b w.heap.size with h'|h'
    ·exact h'
    ·unfold World.cell? at hs0;rw[show((⟨b,off,none⟩:Addr).add 0).block=b from rfl,Array.getElem?_eq_none h'] at hs0;cases hs0
   ·have hi':i<zs.length:=by rw[hl] at hi;omega
    have:=hc i hi';rw[show(⟨b,off,none⟩:Addr).add i=⟨b,off+i,none⟩ by simp[Addr.add]] at this;rw[this,List.getD_eq_getElem?_getD,List.getElem?_eq_getElem hi',Option.getD_some];simp
theorem IsRow.bytes {w:World} {a:Option Addr} {len cap:Nat} {zs:List Int} (h:IsRow .u8 w a len cap zs): ∃l:List UInt8,l.length=len∧Row w (.slice a l.length cap) (l.map fun c=>Value.int .u8 (c.toNat:Int))∧len≤maxLen∧len≤cap:=by
 have hc:len≤cap:=by
  rcases h with ⟨_,h1,h2,_⟩|⟨x,_,h1,_⟩<;>omega
 obtain⟨h1,h2,h3,h4⟩:=h.row;refine⟨(zs.take len).map fun z=>UInt8.ofNat z.toNat,by simpa using h2,?_,h3,hc⟩
 have e:(((zs.take len).map fun z=>UInt8.ofNat z.toNat).map fun c=>Value.int .u8 (c.toNat:Int))=(zs.take len).map (Value.int .u8):=by
  rw[List.map_map];refine List.map_congr_left fun z hz=>?_
  obtain⟨n,rfl,hn⟩:=qr4 (h4 z hz);show Value.int .u8 ((UInt8.ofNat (n:Int).toNat).toNat:Int)=_;rw[Int.toNat_natCast,qaF n hn]
 rw[e,List.length_map,h2];exact h1
end Go.Proofs.YtdeimnnpcfncpaaGreatDoor
