/- Walks: words of a chain; RunChain, IsChecked. -/
import Derived.Test.YtefkefmhfoedcaaDoorChVS
namespace Go.Proofs.YtefkefmhfoedcaaDoor
set_option maxRecDepth 100000
open Go.RowKit

/-- a chain as an argument: its two slices, of bounded sizes -/
structure ChIn (w : World) (D : Ch) (a : Option Addr) (n c : Nat) (a' : Option Addr) (n' c' : Nat) : Prop where
  ts : Cube w a n c D.tabs
  ps : Ints w a' n' c' D.places
  hn : n ≤ 1048576
  hn' : n' ≤ 1048576
  sm : SmallCh D
theorem ChIn.ext {w w' : World} {D : Ch} {a : Option Addr} {n c : Nat} {a' : Option Addr} {n' c' : Nat} (h : ChIn w D a n c a' n' c') (hx : Ext w w') : ChIn w' D a n c a' n' c' := ⟨h.ts.ext hx, h.ps.ext hx, h.hn, h.hn', h.sm⟩
theorem ChIn.box {w : World} {D : Ch} {a : Option Addr} {n c : Nat} {a' : Option Addr} {n' c' : Nat} (h : ChIn w D a n c a' n' c') (T : TypeId) :
    ChAt (w.alloc (.cells #[.int .i64 D.base, .int .i64 D.states, .int .i64 D.start, .int .i64 D.fin, .slice a n c, .slice a' n' c'] T)) w.heap.size D a n c a' n' c' := ch_box w D a n c a' n' c' T h.ts h.ps

def wordCh (D : Ch) (s : ByteArray) : Bool := wordB s.data.toList D.base 20 && decide (s.size = D.places.length)
def digC (s : ByteArray) : List Int := digs s.data.toList
theorem digC_len (s : ByteArray) : (digC s).length = s.size := by simp [digC, digs]
theorem wordCh_t {D : Ch} {s : ByteArray} (h : wordCh D s = true) : DigC D (digC s) ∧ s.size = D.places.length ∧ s.size ≤ 20 := by
  unfold wordCh wordB at h
  simp only [Bool.and_eq_true, List.all_eq_true, decide_eq_true_eq] at h
  obtain ⟨⟨h1, _, h3⟩, h4⟩ := h
  refine ⟨fun d hd => ?_, h4, by rw [size_eq] at h3; omega⟩
  obtain ⟨x, hx, rfl⟩ := List.mem_map.1 hd
  have := inB_t.1 (h1 x hx)
  omega
def runOk (D : Ch) (s : ByteArray) : Bool := validCh D && wordCh D s
def runEnd (D : Ch) (s : ByteArray) : Int := runS D 0 D.start (digC s)
def runRes (D : Ch) (s : ByteArray) : Int := if runOk D s then runEnd D s else 0
def chkB (D : Ch) (s : ByteArray) : Bool := runOk D s && decide (runEnd D s = D.fin)
theorem chk_no {D : Ch} {s : ByteArray} (h : runOk D s = false) : chkB D s = false := by simp [chkB, h]
theorem chk_yes {D : Ch} {s : ByteArray} (h : runOk D s = true) : chkB D s = (runEnd D s == D.fin) := by rw [chkB, h]; rfl

end Go.Proofs.YtefkefmhfoedcaaDoor
