/- The reference's End, where the breaker may be. -/
import Derived.Test.YtkckehpcdjlcpaaBrkQ2a
import Derived.Test.YtkckehpcdjlcpaaBrkQ2b
import Derived.Test.YtkckehpcdjlcpaaBrkQ2c
namespace Go.Proofs.Ytkckehpcdjlcpaa.Brk
open Go.RowKit Go.Proofs.Ytkckehpcdjlcpaa
attribute [local go_sem] K.max2_int K.min2_int K.max_two K.min_two K.max_three K.min_three
set_option linter.unusedVariables false
set_option linter.unusedSimpArgs false
theorem rend_c (b : B) (s : S) (t : Int) (p g : Bool) (w : World) (h : chk b s t = 0) : Calls Try.prog 34 #[b.a, s.a, .int .i64 t, .bool p, .bool g] w fun e w' =>
    e = .returned (.tuple #[(ends b s t p g).a, .int .i64 0]) ∧ Below w.heap.size w w' := by
  by_cases h0 : b.mode = 0
  · cases p <;> cases g
    · exact rend_nn0 b s t w h h0
    · exact rend_ny0 b s t w h h0
    · exact rend_yn0 b s t w h h0
    · exact rend_yy0 b s t w h h0
  by_cases h2 : b.mode = 2
  · cases p <;> cases g
    · exact rend_nn2 b s t w h h2
    · exact rend_ny2 b s t w h h2
    · exact rend_yn2 b s t w h h2
    · exact rend_yy2 b s t w h h2
  · cases p <;> cases g
    · exact rend_nn1 b s t w h ⟨h0, h2⟩
    · exact rend_ny1 b s t w h ⟨h0, h2⟩
    · exact rend_yn1 b s t w h ⟨h0, h2⟩
    · exact rend_yy1 b s t w h ⟨h0, h2⟩
end Go.Proofs.Ytkckehpcdjlcpaa.Brk
