/-
  head.Write's fits: '==' of two raw heads.
-/
import Derived.Test.YtiiaoagobjgkiaaGreatDoorNum
import Derived.ChangeKeysEq
namespace Go.Proofs.YtiiaoagobjgkiaaGreatDoor
open Go.RowKit Go.WideShapes

set_option maxHeartbeats 1600000 in
set_option maxRecDepth 100000 in
theorem eql13d (d : Nat) (us gr fr : ByteArray) (ma mi : Int) (w : World) (es : ∀ x y : ByteArray, (Op.equalIn d 9 (.string x) (.string y)).run Tryz.prog w = .ok (x.toList == y.toList) w)
    (ei : ∀ x y : Int, (Op.equalIn d 3 (.int .i64 x) (.int .i64 y)).run Tryz.prog w = .ok (x == y) w) (e8 : ∀ x y : Int, (Op.equalIn d 5 (.int .u8 x) (.int .u8 y)).run Tryz.prog w = .ok (x == y) w) :
    (Op.equalIn (d + 1) 82 (.agg #[.string ⟨#[]⟩, .string ⟨#[]⟩, .string us, .string gr, .string fr, .int .u8 0, .int .i64 0, .int .i64 0, .int .i64 0, .int .i64 0, .int .i64 0, .int .i64 ma, .int .i64 mi])
      (.agg #[.string ⟨#[]⟩, .string ⟨#[]⟩, .string ⟨#[]⟩, .string ⟨#[]⟩, .string ⟨#[]⟩, .int .u8 0, .int .i64 0, .int .i64 0, .int .i64 0, .int .i64 0, .int .i64 0, .int .i64 0, .int .i64 0])).run Tryz.prog w
      = .ok ((us.toList == (⟨#[]⟩ : ByteArray).toList) && (gr.toList == (⟨#[]⟩ : ByteArray).toList) && (fr.toList == (⟨#[]⟩ : ByteArray).toList) && (ma == 0) && (mi == 0)) w := by
  simp only [Op.equalIn, Sem.run_bind, run_underlying Tryz.underlying82, Result.andThen_ok]
  generalize hE : (⟨#[]⟩ : ByteArray) = E at *
  cases h1 : (us.toList == E.toList) <;> cases h2 : (gr.toList == E.toList) <;> cases h3 : (fr.toList == E.toList) <;> cases h4 : (ma == 0) <;> cases h5 : (mi == 0) <;>
    simp [part, isAgg, run_underlying Tryz.underlying3, run_underlying Tryz.underlying9, run_underlying Tryz.underlying5, es, ei, e8, h1, h2, h3, h4, h5]
end Go.Proofs.YtiiaoagobjgkiaaGreatDoor
