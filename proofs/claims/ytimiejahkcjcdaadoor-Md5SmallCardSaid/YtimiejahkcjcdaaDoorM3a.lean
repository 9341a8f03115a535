/- The constants of md5, and the rounds of a step. -/
import Derived.Test.YtimiejahkcjcdaaDoorM2
namespace Go.Proofs.YtimiejahkcjcdaaDoor
open Go.RowKit

def KsI : List Int := [3614090360, 3905402710, 606105819, 3250441966, 4118548399, 1200080426, 2821735955, 4249261313, 1770035416, 2336552879, 4294925233, 2304563134, 1804603682, 4254626195, 2792965006, 1236535329, 4129170786, 3225465664, 643717713, 3921069994, 3593408605, 38016083, 3634488961, 3889429448, 568446438, 3275163606, 4107603335, 1163531501, 2850285829, 4243563512, 1735328473, 2368359562, 4294588738, 2272392833, 1839030562, 4259657740, 2763975236, 1272893353, 4139469664, 3200236656, 681279174, 3936430074, 3572445317, 76029189, 3654602809, 3873151461, 530742520, 3299628645, 4096336452, 1126891415, 2878612391, 4237533241, 1700485571, 2399980690, 4293915773, 2240044497, 1873313359, 4264355552, 2734768916, 1309151649, 4149444226, 3174756917, 718787259, 3951481745]
def TsI : List Int := [7, 12, 17, 22, 5, 9, 14, 20, 4, 11, 16, 23, 6, 10, 15, 21]
def Kw (k : Nat) : BitVec 32 := BitVec.ofInt 32 (KsI.getD k 0)
def Tn (k : Nat) : Nat := (TsI.getD (k / 16 * 4 + k % 4) 0).toNat
theorem U_K : ∀ k, k < 64 → U (Kw k) = KsI.getD k 0 := by decide +kernel
theorem Tn_T : ∀ k, k < 64 → ((Tn k : Nat) : Int) = TsI.getD (k / 16 * 4 + k % 4) 0 ∧ 4 ≤ Tn k ∧ Tn k ≤ 23 := by decide +kernel
def KsV : Array Value := #[.int .u32 3614090360, .int .u32 3905402710, .int .u32 606105819, .int .u32 3250441966, .int .u32 4118548399, .int .u32 1200080426, .int .u32 2821735955, .int .u32 4249261313, .int .u32 1770035416, .int .u32 2336552879, .int .u32 4294925233, .int .u32 2304563134, .int .u32 1804603682, .int .u32 4254626195, .int .u32 2792965006, .int .u32 1236535329, .int .u32 4129170786, .int .u32 3225465664, .int .u32 643717713, .int .u32 3921069994, .int .u32 3593408605, .int .u32 38016083, .int .u32 3634488961, .int .u32 3889429448, .int .u32 568446438, .int .u32 3275163606, .int .u32 4107603335, .int .u32 1163531501, .int .u32 2850285829, .int .u32 4243563512, .int .u32 1735328473, .int .u32 2368359562, .int .u32 4294588738, .int .u32 2272392833, .int .u32 1839030562, .int .u32 4259657740, .int .u32 2763975236, .int .u32 1272893353, .int .u32 4139469664, .int .u32 3200236656, .int .u32 681279174, .int .u32 3936430074, .int .u32 3572445317, .int .u32 76029189, .int .u32 3654602809, .int .u32 3873151461, .int .u32 530742520, .int .u32 3299628645, .int .u32 4096336452, .int .u32 1126891415, .int .u32 2878612391, .int .u32 4237533241, .int .u32 1700485571, .int .u32 2399980690, .int .u32 4293915773, .int .u32 2240044497, .int .u32 1873313359, .int .u32 4264355552, .int .u32 2734768916, .int .u32 1309151649, .int .u32 4149444226, .int .u32 3174756917, .int .u32 718787259, .int .u32 3951481745]
theorem KsV_eq : KsV = (KsI.map (Value.int .u32)).toArray := rfl
theorem idx_K0 (w : World) : ∀ k, k < 64 → (Instr.index 88 (.agg KsV) (.int .i64 (k : Nat))).run Tryd.prog w = .ok (.int .u32 (KsI.getD k 0)) w
  | 0, _ => by kernel_rfl
  | 1, _ => by kernel_rfl
  | 2, _ => by kernel_rfl
  | 3, _ => by kernel_rfl
  | 4, _ => by kernel_rfl
  | 5, _ => by kernel_rfl
  | 6, _ => by kernel_rfl
  | 7, _ => by kernel_rfl
  | 8, _ => by kernel_rfl
  | 9, _ => by kernel_rfl
  | 10, _ => by kernel_rfl
  | 11, _ => by kernel_rfl
  | 12, _ => by kernel_rfl
  | 13, _ => by kernel_rfl
  | 14, _ => by kernel_rfl
  | 15, _ => by kernel_rfl
  | 16, _ => by kernel_rfl
  | 17, _ => by kernel_rfl
  | 18, _ => by kernel_rfl
  | 19, _ => by kernel_rfl
  | 20, _ => by kernel_rfl
  | 21, _ => by kernel_rfl
  | 22, _ => by kernel_rfl
  | 23, _ => by kernel_rfl
  | 24, _ => by kernel_rfl
  | 25, _ => by kernel_rfl
  | 26, _ => by kernel_rfl
  | 27, _ => by kernel_rfl
  | 28, _ => by kernel_rfl
  | 29, _ => by kernel_rfl
  | 30, _ => by kernel_rfl
  | 31, _ => by kernel_rfl
  | 32, _ => by kernel_rfl
  | 33, _ => by kernel_rfl
  | 34, _ => by kernel_rfl
  | 35, _ => by kernel_rfl
  | 36, _ => by kernel_rfl
  | 37, _ => by kernel_rfl
  | 38, _ => by kernel_rfl
  | 39, _ => by kernel_rfl
  | 40, _ => by kernel_rfl
  | 41, _ => by kernel_rfl
  | 42, _ => by kernel_rfl
  | 43, _ => by kernel_rfl
  | 44, _ => by kernel_rfl
  | 45, _ => by kernel_rfl
  | 46, _ => by kernel_rfl
  | 47, _ => by kernel_rfl
  | 48, _ => by kernel_rfl
  | 49, _ => by kernel_rfl
  | 50, _ => by kernel_rfl
  | 51, _ => by kernel_rfl
  | 52, _ => by kernel_rfl
  | 53, _ => by kernel_rfl
  | 54, _ => by kernel_rfl
  | 55, _ => by kernel_rfl
  | 56, _ => by kernel_rfl
  | 57, _ => by kernel_rfl
  | 58, _ => by kernel_rfl
  | 59, _ => by kernel_rfl
  | 60, _ => by kernel_rfl
  | 61, _ => by kernel_rfl
  | 62, _ => by kernel_rfl
  | 63, _ => by kernel_rfl
  | k + 64, h => absurd h (by omega)
theorem idx_K (k : Nat) (h : k < 64) (w : World) : (Instr.index 88 (.agg KsV) (.int .i64 (k : Nat))).run Tryd.prog w = .ok (.int .u32 (U (Kw k))) w := by
  rw [U_K k h]; exact idx_K0 w k h
/-- The tables as they are laid. -/
def Tabs (w : World) : Prop := (∃ t fr, w.heap[0]? = some (.cells KsV t fr)) ∧ (∃ cs t fr, w.heap[1]? = some (.cells cs t fr)) ∧ ∀ i, i < 16 → w.cell? ⟨1, i, none⟩ = some (.int .i64 (TsI.getD i 0))
theorem Tabs.lt {w : World} (h : Tabs w) : 1 < w.heap.size := by
  obtain ⟨_, ⟨cs, t, fr, h1⟩, _⟩ := h
  exact (Array.getElem?_eq_some_iff.1 h1).1
theorem Tabs.on {w w' : World} (h : Tabs w) (hb : Below w.heap.size w w') : Tabs w' := by
  have hl := h.lt
  obtain ⟨⟨t, fr, h0⟩, ⟨cs, t1, fr1, h1⟩, h2⟩ := h
  exact ⟨⟨t, fr, (hb.block 0 (by omega)).trans h0⟩, ⟨cs, t1, fr1, (hb.block 1 hl).trans h1⟩, fun i hi => (hb.cell (p := ⟨1, i, none⟩) hl).trans (h2 i hi)⟩

/-- Four words. -/
structure S4 where
  a : BitVec 32
  b : BitVec 32
  c : BitVec 32
  d : BitVec 32
deriving DecidableEq
def rot (t : BitVec 32) (n : Nat) : BitVec 32 := (t <<< n) ||| (t >>> (32 - n))
def rnd (m : Nat → BitVec 32) (i : Nat) (s : S4) : S4 := ⟨s.d, s.b + rot (s.a + mixw i s.b s.c s.d + Kw i + m (mixg i)) (Tn i), s.b, s.c⟩
def rnds (m : Nat → BitVec 32) : Nat → S4 → S4
  | 0, s => s
  | k + 1, s => rnd m k (rnds m k s)
/-- The words of a block, as they are gathered. -/
def mw (l : List UInt8) : Nat → Nat → BitVec 32
  | 0, _ => 0
  | k + 1, j => if k / 4 = j then mw l k j ||| (zx (l.getD k 0) <<< (k % 4 * 8)) else mw l k j
/-- What a step returns. -/
def stepF (s : S4) (l : List UInt8) : S4 := ⟨s.a + (rnds (mw l 64) 64 s).a, s.b + (rnds (mw l 64) 64 s).b, s.c + (rnds (mw l 64) 64 s).c, s.d + (rnds (mw l 64) 64 s).d⟩
def sv (s : S4) : Value := .agg #[.int .u32 (U s.a), .int .u32 (U s.b), .int .u32 (U s.c), .int .u32 (U s.d)]
end Go.Proofs.YtimiejahkcjcdaaDoor
