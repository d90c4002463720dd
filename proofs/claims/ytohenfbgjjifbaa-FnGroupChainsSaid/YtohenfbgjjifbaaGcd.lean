/- Walks: the greatest common divisor and the text of a symbol, in the laws and the reference. -/
import Derived.Test.YtohenfbgjjifbaaText
import Derived.Test.YtohenfbgjjifbaaCube
namespace Go.Proofs.Ytohenfbgjjifbaa
set_option maxRecDepth 100000
open Go.RowKit

set_option maxHeartbeats 1000000 in
theorem spec_SymbolOf (d : Int) (w : World) (h0 : 0 ≤ d) (h1 : d ≤ 35) : Calls Try.prog 11 #[.int .i64 d] w (Ret2 (.string (textOf [d])) (.bool true) w) := by
  have HI := Lib.hid (fun W => spec_in d 0 35 W)
  rw [show inB d 0 35 = true from inB_t.2 (by omega)] at HI
  have HS := Lib.hid (fun W => spec_symbol d W h0 h1)
  have hr := run_bytes_text (w.alloc (.cells #[.int .u8 (sym d)] 5)) _ (some ⟨w.heap.size, 0, none⟩) 1 1 [sym d] (own_lit1 w 5 (.int .u8 (sym d)))
  go_enter Try.func11, Try.ntmps11
  go_wp2_with (first | ((with_reducible refine (HI.out _).mono ?_); rintro e w1 ⟨rfl, rfl⟩) | ((with_reducible refine (HS.out _).mono ?_); rintro e w1 ⟨rfl, rfl⟩))
  go_ret2
  exact ⟨rfl, (Ext.refl _).alloc _⟩
end Go.Proofs.Ytohenfbgjjifbaa
