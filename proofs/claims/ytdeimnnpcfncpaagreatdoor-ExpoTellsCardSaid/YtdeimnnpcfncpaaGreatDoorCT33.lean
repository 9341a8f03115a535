/- Parts of the proof: Y1 Y4. -/
import Derived.Test.YtdeimnnpcfncpaaGreatDoorCT22
set_option linter.unusedVariables false
set_option linter.unusedSimpArgs false
set_option maxRecDepth 100000
set_option maxHeartbeats 64000000
section
namespace Go.Proofs.YtdeimnnpcfncpaaGreatDoor
open Go Go.RowKit
theorem qlG (s:ByteArray) (a e:Nat) (ng:Bool) (E:Int) (H:qhV s a e) (S:Sgn s a ng) (T:Tail s e E) (ht:(mat s a e).trunc=true) (hsm: -345≤qaw (mat s a e) E→qaw (mat s a e) E≤310→qbJ ((mat s a e).mant+1) (qaw (mat s a e) E+348).toNat=qbJ (mat s a e).mant (qaw (mat s a e) E+348).toNat) (w:World) (hG:qeG w):
 Calls Tryz.prog 263 #[.string s] w (AtRet ng (v64 (mat s a e).mant (qaw (mat s a e) E)) s.size w):=by
 have hz:=H.sz;have hl:=H.lt;have hle:=H.le;have hrf:=qjz s a e ng E H S T w;unfold qhZ at hrf;rw[ht] at hrf;have hsp:=Lh (qja s a ng (by omega) hz (by rcases S with h|h;exact .inl h.1;exact .inr h) (qdY H) w);have hm:=(qbE H e (by omega) (Nat.le_refl _)).2.1;obtain⟨d,hd⟩: ∃d,d=(mat s a e).mant:=⟨_,rfl⟩;obtain⟨p,hp⟩: ∃p,p=qaw (mat s a e) E:=⟨_,rfl⟩;rw[←hd] at hm;rw[←hd,←hp] at hrf hsm⊢;replace hrf:=Lh hrf;obtain⟨b,hb1,hb2⟩:=qex ng;obtain⟨o1,o2⟩:=qnT ng;have hsg:=qiD ng;have hpg:=fun (W:World) (hW:qeG W) (h1: -348≤p) (h2:p≤347)=>qfh (d+1) (p+348).toNat (sgw ng) (by omega) (by omega) (by omega) hsg W hW.tab (by have:=hW.big;omega)
 have hpf:=fun (h0:0<d) (h1: -348≤p) (h2:p≤347)=>qfh d (p+348).toNat (sgw ng) h0 (by omega) (by omega) hsg w hG.tab (by have:=hG.big;omega)
 obtain⟨sg,hsgd⟩: ∃sg,sg=sgw ng:=⟨_,rfl⟩;rw[←hsgd] at hb1 o1 o2 hpf hpg hsg;have f1:=qn8 (sg:Int) w;have f2:=qn8 ((sg+INF:Nat):Int) w;rw[Int.toNat_natCast] at f1 f2;have opt:=hG.opt;have hAt: ∀v b W,Below w.heap.size w W→v64 d p=v→AtRet ng (v64 d p) s.size w (.returned (.tuple #[.float .f64 (sg+v),.int .i64 s.size,qe3 b])) W:=fun v b W hB hv=>by subst hv;rw[hsgd];exact⟨⟨b,rfl⟩,hB⟩
 obtain⟨hi,hhi⟩: ∃hi,hi=sg+INF:=⟨_,rfl⟩;rw[←hhi] at o2 f2;replace hsgd:=Lh hsgd;replace hb2:=Lh hb2;replace hAt:=Lh hAt;have hGh:=Lh hG;clear H S T ht hd hp hG hl hle
 by_cases g0:d=0
 ·have u0:((d:Int)==0)=true:=by simp[g0]
  have hv:Hid (AtRet ng (v64 d p) s.size w (.returned (.tuple #[.float .f64 sg,.int .i64 s.size,.nilIface])) w):=hAt.out 0 false w (Below.refl _ _) (by unfold v64;rw[if_pos g0]);clear hpf hpg hsm hAt g0 hhi;go_enter Tryz.func263,Tryz.ntmps263;go_wp2_with fail;refine hsp.out.mono ?_;rintro x w1 ⟨rfl,rfl⟩;go_wp2_with fail;refine hrf.out.mono ?_;rintro x w1 ⟨rfl,rfl⟩;go_wp2_with fail;refine(hb2.out _).mono ?_;rintro x w1 ⟨rfl,rfl⟩;go_wp2_with fail;go_ret3;exact hv.out
 ·have u0:((d:Int)==0)=false:=by simp[g0]
  have d0:0<d:=by omega
  by_cases g1:310<p
  ·have u1:decide ((310:Int)<p)=true:=dT g1;have hv:Hid (AtRet ng (v64 d p) s.size w (.returned (.tuple #[.float .f64 hi,.int .i64 s.size,.iface 287 (.int .i64 1)])) w):=by rw[hhi];exact hAt.out INF true w (Below.refl _ _) (by unfold v64;rw[if_neg g0,if_pos g1])
   clear hhi;clear hpf hpg hsm hAt g0;go_enter Tryz.func263,Tryz.ntmps263;go_wp2_with fail;refine hsp.out.mono ?_;rintro x w1 ⟨rfl,rfl⟩;go_wp2_with fail;refine hrf.out.mono ?_;rintro x w1 ⟨rfl,rfl⟩;go_wp2_with fail;refine(hb2.out _).mono ?_;rintro x w1 ⟨rfl,rfl⟩;go_wp2_with fail;go_ret3;exact hv.out
  ·have u1:decide ((310:Int)<p)=false:=dF g1
   by_cases g2:p< -345
   ·have u2:decide (p<(-345:Int))=true:=dT g2;have hv:Hid (AtRet ng (v64 d p) s.size w (.returned (.tuple #[.float .f64 sg,.int .i64 s.size,.nilIface])) w):=hAt.out 0 false w (Below.refl _ _) (by unfold v64;rw[if_neg g0,if_neg g1,if_pos g2]);clear hpf hpg hsm hAt g0 g1 g2 hhi;go_enter Tryz.func263,Tryz.ntmps263;go_wp2_with fail;refine hsp.out.mono ?_;rintro x w1 ⟨rfl,rfl⟩;go_wp2_with fail;refine hrf.out.mono ?_;rintro x w1 ⟨rfl,rfl⟩;go_wp2_with fail;refine(hb2.out _).mono ?_;rintro x w1 ⟨rfl,rfl⟩;go_wp2_with fail;go_ret3;exact hv.out
   ·have u2:decide (p<(-345:Int))=false:=dF g2;have hv:=fun b W hB=>hAt.out (qbJ d (p+348).toNat) b W hB (by unfold v64;rw[if_neg g0,if_neg g1,if_neg g2])
    have hpf':=Lh (hpf d0 (by omega) (by omega));rw[show((p+348).toNat:Int) - 348=p by omega] at hpf';have hpg':=fun W hW=>hpg W hW (by omega) (by omega)
    rw[show((p+348).toNat:Int) - 348=p by omega,hsm (by omega) (by omega)] at hpg';obtain⟨F,hF⟩: ∃F,F=qbJ d (p+348).toNat:=⟨_,rfl⟩;have hFI:F≤INF:=by rw[hF];exact(qdP d (p+348).toNat d0 (by omega) (by omega)).1
    rw[←hF] at hv hpf' hpg';obtain⟨er,her⟩: ∃er,er=qe3 (decide (F=INF)):=⟨_,rfl⟩;have hv1: ∀W,Below w.heap.size w W→AtRet ng (v64 d p) s.size w (.returned (.tuple #[.float .f64 (sg+F),.int .i64 s.size,er])) W:=fun W hB=>by rw[her];exact hv _ W hB
    unfold qmf at hpf' hpg';rw[←her] at hpf' hpg';obtain⟨Q,hQ⟩: ∃Q,Q=sg+F:=⟨_,rfl⟩;rw[←hQ] at hv1 hpf' hpg'
    have hQQ:(FloatKind.f64.format.order Q Q==some .eq)=true:=by
     have hI:INF=9218868437227405312:=rfl;have hs2:sg=0∨sg=9223372036854775808:=by rw[hsgd.out];cases ng<;>simp[sgw]
     have h1:=qkL Q (by rw[hQ];omega)
     have h2:qew Q=false:=by
      unfold qew;rw[decide_eq_false_iff_not,hQ];rcases hs2 with h|h<;>omega
     rw[h2] at h1;simpa using h1
    replace hv1:=Lh hv1;replace hpg':=Lh (fun W hW=>hpg' W hW);clear hpf hpg hsm hAt g0 g1 g2 her hF hv hhi hQ hFI;go_enter Tryz.func263,Tryz.ntmps263;go_wp2_with fail;refine hsp.out.mono ?_;rintro x w1 ⟨rfl,rfl⟩;go_wp2_with fail;refine hrf.out.mono ?_;rintro x w1 ⟨rfl,rfl⟩;go_wp2_with fail;refine(hb2.out _).mono ?_;rintro x w1 ⟨rfl,rfl⟩;go_wp2_with fail;refine hpf'.out.mono ?_;rintro x w1 ⟨rfl,hB⟩;replace hB:=Lh hB;go_wp2_with fail;refine(hpg'.out w1 (hGh.out.on hB.out)).mono ?_;rintro x w2 ⟨rfl,hB2⟩;replace hB:=Lh (hB.out.trans (hB2.mono hB.out.size));clear hB2;go_wp2_with fail;go_ret3;exact hv1.out _ hB.out
end Go.Proofs.YtdeimnnpcfncpaaGreatDoor
end
section
namespace Go.Proofs.YtdeimnnpcfncpaaGreatDoor
open Go Go.RowKit Ieee
theorem qhP (a:Nat) (ha:a<18446744073709551616) (hn:qew a=false): ∃s r,a=sgw s+r∧r≤INF:=by
 rw[qrB] at hn
 by_cases g:a<9223372036854775808
 ·exact⟨false,a,by simp[sgw],by omega⟩
 ·exact⟨true,a - 9223372036854775808,by simp only[sgw,if_true];omega,by omega⟩
theorem qhv:qaq (sgw false+INF)=[43,73,110,102]:=by
 unfold qaq;rw[show kindN (sgw false+INF)=3 by decide+kernel];rfl
theorem qhQ:qaq (sgw true+INF)=[45,73,110,102]:=by
 unfold qaq;rw[show kindN (sgw true+INF)=3 by decide+kernel];rfl
end Go.Proofs.YtdeimnnpcfncpaaGreatDoor
end
