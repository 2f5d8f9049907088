/-
  The reference's ModeChange: its walk over the parts (written by chgref.py). No conditions but the text's length.
-/
import Derived.Test.YtbofobakphlpbaaDoorChgR
namespace Go.Proofs.YtbofobakphlpbaaDoor
open Go.RowKit Go.WideShapes Go.PlainAid

theorem mapWS0 (w : World) : (Instr.mapUpdate 59 (.map (some w.heap.size)) (.int .u8 117) (.int .i64 2496)).run Tryd.prog (w.alloc (.map #[] 0)) = .ok () (w.alloc (.map #[{ key := .int .u8 117, val := .int .i64 2496, born := 0 }] 1)) :=
  lit_step w #[] 0 117 (.int .i64 2496) (by rfl)
theorem mapWS1 (w : World) : (Instr.mapUpdate 59 (.map (some w.heap.size)) (.int .u8 103) (.int .i64 1080)).run Tryd.prog (w.alloc (.map #[{ key := .int .u8 117, val := .int .i64 2496, born := 0 }] 1)) = .ok () (w.alloc (.map #[{ key := .int .u8 117, val := .int .i64 2496, born := 0 }, { key := .int .u8 103, val := .int .i64 1080, born := 1 }] 2)) :=
  lit_step w #[{ key := .int .u8 117, val := .int .i64 2496, born := 0 }] 1 103 (.int .i64 1080) (by rfl)
theorem mapWS2 (w : World) : (Instr.mapUpdate 59 (.map (some w.heap.size)) (.int .u8 111) (.int .i64 519)).run Tryd.prog (w.alloc (.map #[{ key := .int .u8 117, val := .int .i64 2496, born := 0 }, { key := .int .u8 103, val := .int .i64 1080, born := 1 }] 2)) = .ok () (w.alloc (.map #[{ key := .int .u8 117, val := .int .i64 2496, born := 0 }, { key := .int .u8 103, val := .int .i64 1080, born := 1 }, { key := .int .u8 111, val := .int .i64 519, born := 2 }] 3)) :=
  lit_step w #[{ key := .int .u8 117, val := .int .i64 2496, born := 0 }, { key := .int .u8 103, val := .int .i64 1080, born := 1 }] 2 111 (.int .i64 519) (by rfl)
theorem mapWS3 (w : World) : (Instr.mapUpdate 59 (.map (some w.heap.size)) (.int .u8 97) (.int .i64 4095)).run Tryd.prog (w.alloc (.map #[{ key := .int .u8 117, val := .int .i64 2496, born := 0 }, { key := .int .u8 103, val := .int .i64 1080, born := 1 }, { key := .int .u8 111, val := .int .i64 519, born := 2 }] 3)) = .ok () (w.alloc (.map #[{ key := .int .u8 117, val := .int .i64 2496, born := 0 }, { key := .int .u8 103, val := .int .i64 1080, born := 1 }, { key := .int .u8 111, val := .int .i64 519, born := 2 }, { key := .int .u8 97, val := .int .i64 4095, born := 3 }] 4)) :=
  lit_step w #[{ key := .int .u8 117, val := .int .i64 2496, born := 0 }, { key := .int .u8 103, val := .int .i64 1080, born := 1 }, { key := .int .u8 111, val := .int .i64 519, born := 2 }] 3 97 (.int .i64 4095) (by rfl)
theorem mapWL0 (w : World) : (Instr.lookup 59 (.map (some w.heap.size)) (.int .u8 117) false).run Tryd.prog (w.alloc (.map #[{ key := .int .u8 117, val := .int .i64 2496, born := 0 }, { key := .int .u8 103, val := .int .i64 1080, born := 1 }, { key := .int .u8 111, val := .int .i64 519, born := 2 }, { key := .int .u8 97, val := .int .i64 4095, born := 3 }] 4)) = .ok (.int .i64 2496) (w.alloc (.map #[{ key := .int .u8 117, val := .int .i64 2496, born := 0 }, { key := .int .u8 103, val := .int .i64 1080, born := 1 }, { key := .int .u8 111, val := .int .i64 519, born := 2 }, { key := .int .u8 97, val := .int .i64 4095, born := 3 }] 4)) :=
  lit_look w #[{ key := .int .u8 117, val := .int .i64 2496, born := 0 }, { key := .int .u8 103, val := .int .i64 1080, born := 1 }, { key := .int .u8 111, val := .int .i64 519, born := 2 }, { key := .int .u8 97, val := .int .i64 4095, born := 3 }] 4 0 117 (.int .i64 2496) (by rfl)
theorem mapWL1 (w : World) : (Instr.lookup 59 (.map (some w.heap.size)) (.int .u8 103) false).run Tryd.prog (w.alloc (.map #[{ key := .int .u8 117, val := .int .i64 2496, born := 0 }, { key := .int .u8 103, val := .int .i64 1080, born := 1 }, { key := .int .u8 111, val := .int .i64 519, born := 2 }, { key := .int .u8 97, val := .int .i64 4095, born := 3 }] 4)) = .ok (.int .i64 1080) (w.alloc (.map #[{ key := .int .u8 117, val := .int .i64 2496, born := 0 }, { key := .int .u8 103, val := .int .i64 1080, born := 1 }, { key := .int .u8 111, val := .int .i64 519, born := 2 }, { key := .int .u8 97, val := .int .i64 4095, born := 3 }] 4)) :=
  lit_look w #[{ key := .int .u8 117, val := .int .i64 2496, born := 0 }, { key := .int .u8 103, val := .int .i64 1080, born := 1 }, { key := .int .u8 111, val := .int .i64 519, born := 2 }, { key := .int .u8 97, val := .int .i64 4095, born := 3 }] 4 1 103 (.int .i64 1080) (by rfl)
theorem mapWL2 (w : World) : (Instr.lookup 59 (.map (some w.heap.size)) (.int .u8 111) false).run Tryd.prog (w.alloc (.map #[{ key := .int .u8 117, val := .int .i64 2496, born := 0 }, { key := .int .u8 103, val := .int .i64 1080, born := 1 }, { key := .int .u8 111, val := .int .i64 519, born := 2 }, { key := .int .u8 97, val := .int .i64 4095, born := 3 }] 4)) = .ok (.int .i64 519) (w.alloc (.map #[{ key := .int .u8 117, val := .int .i64 2496, born := 0 }, { key := .int .u8 103, val := .int .i64 1080, born := 1 }, { key := .int .u8 111, val := .int .i64 519, born := 2 }, { key := .int .u8 97, val := .int .i64 4095, born := 3 }] 4)) :=
  lit_look w #[{ key := .int .u8 117, val := .int .i64 2496, born := 0 }, { key := .int .u8 103, val := .int .i64 1080, born := 1 }, { key := .int .u8 111, val := .int .i64 519, born := 2 }, { key := .int .u8 97, val := .int .i64 4095, born := 3 }] 4 2 111 (.int .i64 519) (by rfl)
theorem mapWL3 (w : World) : (Instr.lookup 59 (.map (some w.heap.size)) (.int .u8 97) false).run Tryd.prog (w.alloc (.map #[{ key := .int .u8 117, val := .int .i64 2496, born := 0 }, { key := .int .u8 103, val := .int .i64 1080, born := 1 }, { key := .int .u8 111, val := .int .i64 519, born := 2 }, { key := .int .u8 97, val := .int .i64 4095, born := 3 }] 4)) = .ok (.int .i64 4095) (w.alloc (.map #[{ key := .int .u8 117, val := .int .i64 2496, born := 0 }, { key := .int .u8 103, val := .int .i64 1080, born := 1 }, { key := .int .u8 111, val := .int .i64 519, born := 2 }, { key := .int .u8 97, val := .int .i64 4095, born := 3 }] 4)) :=
  lit_look w #[{ key := .int .u8 117, val := .int .i64 2496, born := 0 }, { key := .int .u8 103, val := .int .i64 1080, born := 1 }, { key := .int .u8 111, val := .int .i64 519, born := 2 }, { key := .int .u8 97, val := .int .i64 4095, born := 3 }] 4 3 97 (.int .i64 4095) (by rfl)
theorem mapHS0 (w : World) : (Instr.mapUpdate 59 (.map (some w.heap.size)) (.int .u8 114) (.int .i64 292)).run Tryd.prog (w.alloc (.map #[] 0)) = .ok () (w.alloc (.map #[{ key := .int .u8 114, val := .int .i64 292, born := 0 }] 1)) :=
  lit_step w #[] 0 114 (.int .i64 292) (by rfl)
theorem mapHS1 (w : World) : (Instr.mapUpdate 59 (.map (some w.heap.size)) (.int .u8 119) (.int .i64 146)).run Tryd.prog (w.alloc (.map #[{ key := .int .u8 114, val := .int .i64 292, born := 0 }] 1)) = .ok () (w.alloc (.map #[{ key := .int .u8 114, val := .int .i64 292, born := 0 }, { key := .int .u8 119, val := .int .i64 146, born := 1 }] 2)) :=
  lit_step w #[{ key := .int .u8 114, val := .int .i64 292, born := 0 }] 1 119 (.int .i64 146) (by rfl)
theorem mapHS2 (w : World) : (Instr.mapUpdate 59 (.map (some w.heap.size)) (.int .u8 120) (.int .i64 73)).run Tryd.prog (w.alloc (.map #[{ key := .int .u8 114, val := .int .i64 292, born := 0 }, { key := .int .u8 119, val := .int .i64 146, born := 1 }] 2)) = .ok () (w.alloc (.map #[{ key := .int .u8 114, val := .int .i64 292, born := 0 }, { key := .int .u8 119, val := .int .i64 146, born := 1 }, { key := .int .u8 120, val := .int .i64 73, born := 2 }] 3)) :=
  lit_step w #[{ key := .int .u8 114, val := .int .i64 292, born := 0 }, { key := .int .u8 119, val := .int .i64 146, born := 1 }] 2 120 (.int .i64 73) (by rfl)
theorem mapHS3 (w : World) : (Instr.mapUpdate 59 (.map (some w.heap.size)) (.int .u8 88) (.int .i64 73)).run Tryd.prog (w.alloc (.map #[{ key := .int .u8 114, val := .int .i64 292, born := 0 }, { key := .int .u8 119, val := .int .i64 146, born := 1 }, { key := .int .u8 120, val := .int .i64 73, born := 2 }] 3)) = .ok () (w.alloc (.map #[{ key := .int .u8 114, val := .int .i64 292, born := 0 }, { key := .int .u8 119, val := .int .i64 146, born := 1 }, { key := .int .u8 120, val := .int .i64 73, born := 2 }, { key := .int .u8 88, val := .int .i64 73, born := 3 }] 4)) :=
  lit_step w #[{ key := .int .u8 114, val := .int .i64 292, born := 0 }, { key := .int .u8 119, val := .int .i64 146, born := 1 }, { key := .int .u8 120, val := .int .i64 73, born := 2 }] 3 88 (.int .i64 73) (by rfl)
theorem mapHS4 (w : World) : (Instr.mapUpdate 59 (.map (some w.heap.size)) (.int .u8 115) (.int .i64 3072)).run Tryd.prog (w.alloc (.map #[{ key := .int .u8 114, val := .int .i64 292, born := 0 }, { key := .int .u8 119, val := .int .i64 146, born := 1 }, { key := .int .u8 120, val := .int .i64 73, born := 2 }, { key := .int .u8 88, val := .int .i64 73, born := 3 }] 4)) = .ok () (w.alloc (.map #[{ key := .int .u8 114, val := .int .i64 292, born := 0 }, { key := .int .u8 119, val := .int .i64 146, born := 1 }, { key := .int .u8 120, val := .int .i64 73, born := 2 }, { key := .int .u8 88, val := .int .i64 73, born := 3 }, { key := .int .u8 115, val := .int .i64 3072, born := 4 }] 5)) :=
  lit_step w #[{ key := .int .u8 114, val := .int .i64 292, born := 0 }, { key := .int .u8 119, val := .int .i64 146, born := 1 }, { key := .int .u8 120, val := .int .i64 73, born := 2 }, { key := .int .u8 88, val := .int .i64 73, born := 3 }] 4 115 (.int .i64 3072) (by rfl)
theorem mapHS5 (w : World) : (Instr.mapUpdate 59 (.map (some w.heap.size)) (.int .u8 116) (.int .i64 512)).run Tryd.prog (w.alloc (.map #[{ key := .int .u8 114, val := .int .i64 292, born := 0 }, { key := .int .u8 119, val := .int .i64 146, born := 1 }, { key := .int .u8 120, val := .int .i64 73, born := 2 }, { key := .int .u8 88, val := .int .i64 73, born := 3 }, { key := .int .u8 115, val := .int .i64 3072, born := 4 }] 5)) = .ok () (w.alloc (.map #[{ key := .int .u8 114, val := .int .i64 292, born := 0 }, { key := .int .u8 119, val := .int .i64 146, born := 1 }, { key := .int .u8 120, val := .int .i64 73, born := 2 }, { key := .int .u8 88, val := .int .i64 73, born := 3 }, { key := .int .u8 115, val := .int .i64 3072, born := 4 }, { key := .int .u8 116, val := .int .i64 512, born := 5 }] 6)) :=
  lit_step w #[{ key := .int .u8 114, val := .int .i64 292, born := 0 }, { key := .int .u8 119, val := .int .i64 146, born := 1 }, { key := .int .u8 120, val := .int .i64 73, born := 2 }, { key := .int .u8 88, val := .int .i64 73, born := 3 }, { key := .int .u8 115, val := .int .i64 3072, born := 4 }] 5 116 (.int .i64 512) (by rfl)
theorem mapHL0 (w : World) : (Instr.lookup 59 (.map (some w.heap.size)) (.int .u8 114) false).run Tryd.prog (w.alloc (.map #[{ key := .int .u8 114, val := .int .i64 292, born := 0 }, { key := .int .u8 119, val := .int .i64 146, born := 1 }, { key := .int .u8 120, val := .int .i64 73, born := 2 }, { key := .int .u8 88, val := .int .i64 73, born := 3 }, { key := .int .u8 115, val := .int .i64 3072, born := 4 }, { key := .int .u8 116, val := .int .i64 512, born := 5 }] 6)) = .ok (.int .i64 292) (w.alloc (.map #[{ key := .int .u8 114, val := .int .i64 292, born := 0 }, { key := .int .u8 119, val := .int .i64 146, born := 1 }, { key := .int .u8 120, val := .int .i64 73, born := 2 }, { key := .int .u8 88, val := .int .i64 73, born := 3 }, { key := .int .u8 115, val := .int .i64 3072, born := 4 }, { key := .int .u8 116, val := .int .i64 512, born := 5 }] 6)) :=
  lit_look w #[{ key := .int .u8 114, val := .int .i64 292, born := 0 }, { key := .int .u8 119, val := .int .i64 146, born := 1 }, { key := .int .u8 120, val := .int .i64 73, born := 2 }, { key := .int .u8 88, val := .int .i64 73, born := 3 }, { key := .int .u8 115, val := .int .i64 3072, born := 4 }, { key := .int .u8 116, val := .int .i64 512, born := 5 }] 6 0 114 (.int .i64 292) (by rfl)
theorem mapHL1 (w : World) : (Instr.lookup 59 (.map (some w.heap.size)) (.int .u8 119) false).run Tryd.prog (w.alloc (.map #[{ key := .int .u8 114, val := .int .i64 292, born := 0 }, { key := .int .u8 119, val := .int .i64 146, born := 1 }, { key := .int .u8 120, val := .int .i64 73, born := 2 }, { key := .int .u8 88, val := .int .i64 73, born := 3 }, { key := .int .u8 115, val := .int .i64 3072, born := 4 }, { key := .int .u8 116, val := .int .i64 512, born := 5 }] 6)) = .ok (.int .i64 146) (w.alloc (.map #[{ key := .int .u8 114, val := .int .i64 292, born := 0 }, { key := .int .u8 119, val := .int .i64 146, born := 1 }, { key := .int .u8 120, val := .int .i64 73, born := 2 }, { key := .int .u8 88, val := .int .i64 73, born := 3 }, { key := .int .u8 115, val := .int .i64 3072, born := 4 }, { key := .int .u8 116, val := .int .i64 512, born := 5 }] 6)) :=
  lit_look w #[{ key := .int .u8 114, val := .int .i64 292, born := 0 }, { key := .int .u8 119, val := .int .i64 146, born := 1 }, { key := .int .u8 120, val := .int .i64 73, born := 2 }, { key := .int .u8 88, val := .int .i64 73, born := 3 }, { key := .int .u8 115, val := .int .i64 3072, born := 4 }, { key := .int .u8 116, val := .int .i64 512, born := 5 }] 6 1 119 (.int .i64 146) (by rfl)
theorem mapHL2 (w : World) : (Instr.lookup 59 (.map (some w.heap.size)) (.int .u8 120) false).run Tryd.prog (w.alloc (.map #[{ key := .int .u8 114, val := .int .i64 292, born := 0 }, { key := .int .u8 119, val := .int .i64 146, born := 1 }, { key := .int .u8 120, val := .int .i64 73, born := 2 }, { key := .int .u8 88, val := .int .i64 73, born := 3 }, { key := .int .u8 115, val := .int .i64 3072, born := 4 }, { key := .int .u8 116, val := .int .i64 512, born := 5 }] 6)) = .ok (.int .i64 73) (w.alloc (.map #[{ key := .int .u8 114, val := .int .i64 292, born := 0 }, { key := .int .u8 119, val := .int .i64 146, born := 1 }, { key := .int .u8 120, val := .int .i64 73, born := 2 }, { key := .int .u8 88, val := .int .i64 73, born := 3 }, { key := .int .u8 115, val := .int .i64 3072, born := 4 }, { key := .int .u8 116, val := .int .i64 512, born := 5 }] 6)) :=
  lit_look w #[{ key := .int .u8 114, val := .int .i64 292, born := 0 }, { key := .int .u8 119, val := .int .i64 146, born := 1 }, { key := .int .u8 120, val := .int .i64 73, born := 2 }, { key := .int .u8 88, val := .int .i64 73, born := 3 }, { key := .int .u8 115, val := .int .i64 3072, born := 4 }, { key := .int .u8 116, val := .int .i64 512, born := 5 }] 6 2 120 (.int .i64 73) (by rfl)
theorem mapHL3 (w : World) : (Instr.lookup 59 (.map (some w.heap.size)) (.int .u8 88) false).run Tryd.prog (w.alloc (.map #[{ key := .int .u8 114, val := .int .i64 292, born := 0 }, { key := .int .u8 119, val := .int .i64 146, born := 1 }, { key := .int .u8 120, val := .int .i64 73, born := 2 }, { key := .int .u8 88, val := .int .i64 73, born := 3 }, { key := .int .u8 115, val := .int .i64 3072, born := 4 }, { key := .int .u8 116, val := .int .i64 512, born := 5 }] 6)) = .ok (.int .i64 73) (w.alloc (.map #[{ key := .int .u8 114, val := .int .i64 292, born := 0 }, { key := .int .u8 119, val := .int .i64 146, born := 1 }, { key := .int .u8 120, val := .int .i64 73, born := 2 }, { key := .int .u8 88, val := .int .i64 73, born := 3 }, { key := .int .u8 115, val := .int .i64 3072, born := 4 }, { key := .int .u8 116, val := .int .i64 512, born := 5 }] 6)) :=
  lit_look w #[{ key := .int .u8 114, val := .int .i64 292, born := 0 }, { key := .int .u8 119, val := .int .i64 146, born := 1 }, { key := .int .u8 120, val := .int .i64 73, born := 2 }, { key := .int .u8 88, val := .int .i64 73, born := 3 }, { key := .int .u8 115, val := .int .i64 3072, born := 4 }, { key := .int .u8 116, val := .int .i64 512, born := 5 }] 6 3 88 (.int .i64 73) (by rfl)
theorem mapHL4 (w : World) : (Instr.lookup 59 (.map (some w.heap.size)) (.int .u8 115) false).run Tryd.prog (w.alloc (.map #[{ key := .int .u8 114, val := .int .i64 292, born := 0 }, { key := .int .u8 119, val := .int .i64 146, born := 1 }, { key := .int .u8 120, val := .int .i64 73, born := 2 }, { key := .int .u8 88, val := .int .i64 73, born := 3 }, { key := .int .u8 115, val := .int .i64 3072, born := 4 }, { key := .int .u8 116, val := .int .i64 512, born := 5 }] 6)) = .ok (.int .i64 3072) (w.alloc (.map #[{ key := .int .u8 114, val := .int .i64 292, born := 0 }, { key := .int .u8 119, val := .int .i64 146, born := 1 }, { key := .int .u8 120, val := .int .i64 73, born := 2 }, { key := .int .u8 88, val := .int .i64 73, born := 3 }, { key := .int .u8 115, val := .int .i64 3072, born := 4 }, { key := .int .u8 116, val := .int .i64 512, born := 5 }] 6)) :=
  lit_look w #[{ key := .int .u8 114, val := .int .i64 292, born := 0 }, { key := .int .u8 119, val := .int .i64 146, born := 1 }, { key := .int .u8 120, val := .int .i64 73, born := 2 }, { key := .int .u8 88, val := .int .i64 73, born := 3 }, { key := .int .u8 115, val := .int .i64 3072, born := 4 }, { key := .int .u8 116, val := .int .i64 512, born := 5 }] 6 4 115 (.int .i64 3072) (by rfl)
theorem mapHL5 (w : World) : (Instr.lookup 59 (.map (some w.heap.size)) (.int .u8 116) false).run Tryd.prog (w.alloc (.map #[{ key := .int .u8 114, val := .int .i64 292, born := 0 }, { key := .int .u8 119, val := .int .i64 146, born := 1 }, { key := .int .u8 120, val := .int .i64 73, born := 2 }, { key := .int .u8 88, val := .int .i64 73, born := 3 }, { key := .int .u8 115, val := .int .i64 3072, born := 4 }, { key := .int .u8 116, val := .int .i64 512, born := 5 }] 6)) = .ok (.int .i64 512) (w.alloc (.map #[{ key := .int .u8 114, val := .int .i64 292, born := 0 }, { key := .int .u8 119, val := .int .i64 146, born := 1 }, { key := .int .u8 120, val := .int .i64 73, born := 2 }, { key := .int .u8 88, val := .int .i64 73, born := 3 }, { key := .int .u8 115, val := .int .i64 3072, born := 4 }, { key := .int .u8 116, val := .int .i64 512, born := 5 }] 6)) :=
  lit_look w #[{ key := .int .u8 114, val := .int .i64 292, born := 0 }, { key := .int .u8 119, val := .int .i64 146, born := 1 }, { key := .int .u8 120, val := .int .i64 73, born := 2 }, { key := .int .u8 88, val := .int .i64 73, born := 3 }, { key := .int .u8 115, val := .int .i64 3072, born := 4 }, { key := .int .u8 116, val := .int .i64 512, born := 5 }] 6 5 116 (.int .i64 512) (by rfl)

/-- What the reference's change by parts gives. -/
def chgN (v : Option Nat) : Value := match v with
  | some x => .tuple #[.int .i64 (x : Int), .int .i64 0]
  | none => .tuple #[.int .i64 0, .int .i64 3]
theorem bts_take {l : List ByteArray} {k : Nat} (h : k < l.length) : bts (l.take (k + 1)) = bts (l.take k) ++ [l[k].data.toList] := by
  unfold bts
  rw [List.take_succ_eq_append_getElem h, List.map_append]
  rfl
theorem bts_prefix (dir : Bool) {l : List ByteArray} {k m : Nat} (h : allV dir m (bts (l.take k)) = none) : allV dir m (bts l) = none := by
  have e : bts l = bts (l.take k) ++ bts (l.drop k) := by
    unfold bts
    rw [← List.map_append, List.take_append_drop]
  rw [e]
  exact allV_app_none dir _ _ _ h
theorem mem_tw {p : UInt8 → Bool} {c : UInt8} : ∀ {l : List UInt8}, c ∈ l.takeWhile p → p c = true
  | [], h => by simp at h
  | x :: l, h => by
    by_cases hx : p x = true
    · rw [List.takeWhile_cons_of_pos hx] at h
      rcases List.mem_cons.1 h with rfl | h
      · exact hx
      · exact mem_tw h
    · rw [List.takeWhile_cons_of_neg hx] at h
      simp at h
theorem emp_nil {t : ByteArray} (h : t.toList.isEmpty = true) : t.data.toList = [] := by
  rw [ByteArray.toList_eq] at h
  exact List.isEmpty_iff.1 h
theorem mask_some {p : List UInt8} (h : p.takeWhile isWho ≠ []) : maskV p = unionN whoN (p.takeWhile isWho) := by
  unfold maskV
  rw [if_neg fun e => h (union_zero (fun c hc => who_ne hc) (fun c hc => mem_tw hc) e)]
theorem mask_none {p : List UInt8} (h : p.takeWhile isWho = []) : maskV p = 4095 := by
  unfold maskV
  rw [h]
  rfl
theorem union_take {f : UInt8 → Nat} {l : List UInt8} {j : Nat} {c : UInt8} (h : l[j]? = some c) : unionN f (l.take (j + 1)) = unionN f (l.take j) ||| f c := by
  obtain ⟨hl, rfl⟩ := List.getElem?_eq_some_iff.1 h
  rw [List.take_succ_eq_append_getElem hl, union_snoc]
theorem bit_and {g k : Nat} : (g.testBit k = true → g &&& 2 ^ k = 2 ^ k) ∧ (g.testBit k = false → g &&& 2 ^ k = 0) := by
  constructor
  · intro h
    apply Nat.eq_of_testBit_eq
    intro i
    rw [Nat.testBit_and]
    by_cases e : i = k
    · subst e
      rw [h, Bool.true_and]
    · rw [Nat.testBit_two_pow_of_ne (fun h => e h.symm), Bool.and_false]
  · intro h
    apply Nat.eq_of_testBit_eq
    intro i
    rw [Nat.testBit_and, Nat.zero_testBit]
    by_cases e : i = k
    · subst e
      rw [h, Bool.false_and]
    · rw [Nat.testBit_two_pow_of_ne (fun h => e h.symm), Bool.and_false]
set_option maxHeartbeats 40000000 in
set_option maxRecDepth 100000 in
theorem refChange_seq (m : Nat) (hm : m < 4096) (s : ByteArray) (hs : s.size ≤ 1000) (dir : Bool) (hno : s.data.toList.takeWhile isOct = [] ∨ s.data.toList.dropWhile isOct ≠ []) (w : World) (hx : HasMax w) :
    Calls Tryd.prog 7 #[.int .i64 (m : Int), .string s, .bool dir] w fun e w' => e = .returned (chgN (allV dir m (bts (cmS s)))) ∧ Ext w w' := by
  obtain ⟨l, hl⟩ : ∃ l, l = cmS s := ⟨_, rfl⟩
  obtain ⟨R, hR⟩ : ∃ R, R = chgN (allV dir m (bts l)) := ⟨_, rfl⟩
  rw [← hl, ← hR]
  have hle : Hid (∀ p ∈ l, p.size ≤ 1000) := Lib.hid (fun p hp => Nat.le_trans (cmS_le s.size s (Nat.le_refl _) p (by rw [← hl]; exact hp)) hs)
  have hSp : Hid (∀ w, HasMax w → Calls Tryd.prog 22 #[.string s, .string ⟨#[44]⟩] w fun e w' => e = .returned (.slice (some ⟨w.heap.size, 0, none⟩) l.length l.length) ∧ w' = w.alloc (.cells (l.map Value.string).toArray 9)) := Lib.hid (fun w h => by rw [hl]; exact split_any s hs w h)
  have HR := Lib.hid hR
  have cy := fun w => within_yes' (n := (m : Int)) (low := 0) (high := 4095) (by omega) (by omega) w
  have CO := Lib.hid (fun w => only_any s ⟨#[48, 49, 50, 51, 52, 53, 54, 55]⟩ hs isOct oct_ix w)
  have Hno := Lib.hid hno
  have hlen : l.length ≤ 100000 := by
    rw [hl]
    have e : Lib.countB s ⟨#[44]⟩ + 1 = (cmS s).length := (Lib.splitB_all ⟨#[44]⟩ (by decide) 0 _ s rfl).symm
    have := Lib.countB_le ⟨#[44]⟩ (by decide) s.size s (Nat.le_refl _)
    omega
  clear hR hl hno
  have hmm := @run_makeMap Tryd.prog
  go_enter Tryd.func7, Tryd.ntmps7
  go_wp2_with (first | ((with_reducible refine (cy _).mono ?_); rintro e w' ⟨rfl, hw⟩; subst w'))
  refine (CO.out _).mono ?_; rintro e w1 ⟨t, r, rfl, ht, hr, hts, hrs, hx1⟩
  have hx1m := hx.ext hx1
  have hzz : t.toList.isEmpty = true ∨ (t.toList.isEmpty = false ∧ r.toList.isEmpty = false) := by
    rcases Hno.out with h | h
    · exact .inl (emp_t (ht.out.trans h))
    · cases hq : t.toList.isEmpty with
      | true => exact .inl rfl
      | false =>
        refine .inr ⟨rfl, emp_f ?_⟩
        show 0 < r.data.toList.length
        rw [hr.out]
        exact List.length_pos_iff.2 h
  go_upto_region 4 with fail
  go_cut [38] (fun s38 wx => s38 = .bool false ∧ wx = w1)
  case first =>
    rcases hzz with z1 | ⟨z1, z2⟩
    all_goals
      go_wp2_with fail
      go_meet
      exact ⟨rfl, rfl⟩
  case rest =>
    obtain ⟨rfl, hw9⟩ := hcut
    rw [hw9]
    clear hw9
    go_wp2_with fail
    refine (hSp.out _ hx1m).mono ?_; rintro e w2 ⟨rfl, rfl⟩
    have hW0 : Ext w (w1.alloc (.cells (l.map Value.string).toArray 9)) := hx1.trans ((Ext.refl _).alloc _)
    have hc : Hid (∀ j (h : j < l.length), (w1.alloc (.cells (l.map Value.string).toArray 9)).cell? ⟨w1.heap.size, 0 + j, none⟩ = some (.string l[j])) := Lib.hid (fun j hj => by simp [hj])
    generalize hWg : w1.alloc (.cells (l.map Value.string).toArray 9) = W0 at *
    clear hWg
    go_wp2_with fail
    go_loopw [0, 60] (fun mv iv wr => ∃ k y : Nat, k ≤ l.length ∧ y < 4096 ∧ mv = .int .i64 (y : Int) ∧ iv = .int .i64 (k : Int) ∧ Hid (allV dir m (bts (l.take k)) = some y) ∧ Ext W0 wr) (fun _ iv _ => l.length - (intOf iv).toNat)
    case atStart => exact ⟨0, m, by omega, hm, rfl, rfl, Lib.hid rfl, Ext.refl _⟩
    case round =>
      obtain ⟨k, y, hk, hy, rfl, rfl, hall, hE⟩ := hrel
      by_cases hlt : k < l.length
      · have g1 := hE.cell (hc.out k hlt)
        rw [Nat.zero_add] at g1
        have hps := hle.out _ (List.getElem_mem hlt)
        have hnx : Hid (allV dir m (bts (l.take (k + 1))) = partV y dir l[k].data.toList) := Lib.hid (by rw [bts_take hlt, allV_snoc, hall.out]; rfl)
        have hRn : Hid (partV y dir l[k].data.toList = none → R = .tuple #[.int .i64 0, .int .i64 3]) := Lib.hid (fun h => by
          rw [HR.out, bts_prefix dir (l := l) (k := k + 1) (by rw [hnx.out, h])]
          rfl)
        generalize l[k] = p at *
        have C2 := Lib.hid (fun w => only_any p ⟨#[117, 103, 111, 97]⟩ hps isWho who_ix w)
        go_wp2_with fail
        refine (C2.out _).mono ?_; rintro e w3 ⟨t1, r1, rfl, ht1, hr1, hts1, hrs1, hx3⟩
        have hE3 := hE.trans hx3
        obtain ⟨K, hK⟩ : ∃ K, K = maskV p.data.toList := ⟨_, rfl⟩
        have hKl : K < 4096 := by rw [hK]; exact maskV_lt _
        have hpn : Hid (r1.data.toList = [] → partV y dir p.data.toList = none) := Lib.hid (fun h => by unfold partV; rw [if_pos (hr1.out ▸ h)])
        have hps2 : Hid (r1.data.toList ≠ [] → partV y dir p.data.toList = opsV K dir y r1.data.toList) := Lib.hid (fun h => by unfold partV; rw [if_neg (hr1.out ▸ h), hK, hr1.out])
        have hUse : Hid (t1.data.toList ≠ [] → unionN whoN t1.data.toList = K) := Lib.hid (fun h => by rw [hK, mask_some (ht1.out ▸ h), ht1.out])
        have hUsn : Hid (t1.data.toList = [] → K = 4095) := Lib.hid (fun h => by rw [hK, mask_none (ht1.out ▸ h)])
        have hUw : Hid (∀ j c, t1.data.toList[j]? = some c → isWho c = true) := Lib.hid (fun j c h => by
          rw [ht1.out] at h
          exact mem_tw (List.mem_of_getElem? h))
        clear hK hr1 ht1 hx3
        have key : ∃ U : ByteArray, U.size ≤ 1000 ∧ Hid (unionN whoN U.data.toList = K) ∧ Hid (∀ (j : Nat) (c : UInt8), U.data.toList[j]? = some c → isWho c = true) ∧ ((t1.toList.isEmpty = true ∧ U = ⟨#[97]⟩) ∨ (t1.toList.isEmpty = false ∧ U = t1)) := by
          cases ht0 : t1.data.toList with
          | nil => exact ⟨⟨#[97]⟩, by decide, Lib.hid (by rw [hUsn.out ht0]; rfl), Lib.hid (fun j c h => by
              match j, h with
              | 0, h => injection h with h; rw [← h]; rfl), .inl ⟨emp_t ht0, rfl⟩⟩
          | cons c u => exact ⟨t1, by omega, Lib.hid (hUse.out (by rw [ht0]; simp)), hUw, .inr ⟨emp_f (by show 0 < t1.data.toList.length; rw [ht0]; simp), rfl⟩⟩
        clear hUse hUsn hUw
        go_upto_if 70 with fail
        go_cut [14] (fun s14 wx => ∃ U : ByteArray, s14 = .string U ∧ U.size ≤ 1000 ∧ Hid (unionN whoN U.data.toList = K) ∧ Hid (∀ (j : Nat) (c : UInt8), U.data.toList[j]? = some c → isWho c = true) ∧ Ext W0 wx)
        case first =>
          go_wp2_with fail
          · have hz : t1.toList.isEmpty = true := by assumption
            go_meet
            obtain ⟨U, g1, g2, g3, g4⟩ := key
            rcases g4 with ⟨z3, rfl⟩ | ⟨z3, rfl⟩
            · exact ⟨_, rfl, g1, g2, g3, hE3⟩
            · rw [hz] at z3; cases z3
          · have hz : t1.toList.isEmpty = false := by assumption
            go_meet
            obtain ⟨U, g1, g2, g3, g4⟩ := key
            rcases g4 with ⟨z3, rfl⟩ | ⟨z3, rfl⟩
            · rw [hz] at z3; cases z3
            · exact ⟨_, rfl, g1, g2, g3, hE3⟩
        case rest =>
          obtain ⟨U, rfl, hUz, hUk, hUw, hE4⟩ := hcut
          have hbU := get_bt U
          go_wp2_with fail
          go_loopw [16, 73] (fun mv iv wr => ∃ j : Nat, j ≤ U.size ∧ mv = .int .i64 (unionN whoN (U.data.toList.take j) : Int) ∧ iv = .int .i64 (j : Int) ∧ Ext W0 wr) (fun _ iv _ => U.size - (intOf iv).toNat)
          case atStart => exact ⟨0, by omega, rfl, rfl, hE4⟩
          case round =>
            obtain ⟨j, hj, rfl, rfl, hE5⟩ := hrel
            by_cases hjl : j < U.size
            · obtain ⟨c, hc⟩ : ∃ c, U.data.toList[j]? = some c := ⟨_, List.getElem?_eq_getElem hjl⟩
              obtain ⟨a1, a2⟩ := bt_some hc
              have hwc := hUw.out j c hc
              obtain ⟨y2, hy2⟩ : ∃ y2, y2 = unionN whoN (U.data.toList.take (j + 1)) := ⟨_, rfl⟩
              have HU : Hid (y2 = unionN whoN (U.data.toList.take j) ||| whoN c) := Lib.hid (hy2.trans (union_take (f := whoN) hc))
              have hx := union_lt whoN_lt (U.data.toList.take j)
              replace hy2 := Lib.hid hy2
              clear hc
              generalize unionN whoN (U.data.toList.take j) = x2 at *
              have m0 := mapWS0
              have m1 := mapWS1
              have m2 := mapWS2
              have m3 := mapWS3
              unfold isWho at hwc
              simp only [Bool.or_eq_true, beq_iff_eq] at hwc
              rcases hwc with ((rfl | rfl) | rfl) | rfl
              · as_aux_lemma =>
                have a3 : bt U j = 117 := a2
                have lk := mapWL0
                have ho : bits .or .i64 (x2 : Int) 2496 = ((y2 : Nat) : Int) := by rw [HU.out]; exact or12 hx (by decide)
                clear a2
                go_wp2_with fail
                go_roundw
                case rel => exact ⟨j + 1, by omega, by rw [hy2.out], by go_num, hE5.trans ((Ext.refl _).alloc _)⟩
                case measure => simp [intOf]; omega
              · as_aux_lemma =>
                have a3 : bt U j = 103 := a2
                have lk := mapWL1
                have ho : bits .or .i64 (x2 : Int) 1080 = ((y2 : Nat) : Int) := by rw [HU.out]; exact or12 hx (by decide)
                clear a2
                go_wp2_with fail
                go_roundw
                case rel => exact ⟨j + 1, by omega, by rw [hy2.out], by go_num, hE5.trans ((Ext.refl _).alloc _)⟩
                case measure => simp [intOf]; omega
              · as_aux_lemma =>
                have a3 : bt U j = 111 := a2
                have lk := mapWL2
                have ho : bits .or .i64 (x2 : Int) 519 = ((y2 : Nat) : Int) := by rw [HU.out]; exact or12 hx (by decide)
                clear a2
                go_wp2_with fail
                go_roundw
                case rel => exact ⟨j + 1, by omega, by rw [hy2.out], by go_num, hE5.trans ((Ext.refl _).alloc _)⟩
                case measure => simp [intOf]; omega
              · as_aux_lemma =>
                have a3 : bt U j = 97 := a2
                have lk := mapWL3
                have ho : bits .or .i64 (x2 : Int) 4095 = ((y2 : Nat) : Int) := by rw [HU.out]; exact or12 hx (by decide)
                clear a2
                go_wp2_with fail
                go_roundw
                case rel => exact ⟨j + 1, by omega, by rw [hy2.out], by go_num, hE5.trans ((Ext.refl _).alloc _)⟩
                case measure => simp [intOf]; omega
            · obtain rfl : j = U.size := by omega
              have e : unionN whoN (U.data.toList.take U.size) = K := by rw [List.take_of_length_le (show U.data.toList.length ≤ U.size from Nat.le_refl _)]; exact hUk.out
              rw [e]
              clear e hUk hUw hbU
              cases hq : r1.toList.isEmpty with
              | true =>
                have hv : Hid (R = .tuple #[.int .i64 0, .int .i64 3]) := Lib.hid (hRn.out (hpn.out (emp_nil hq)))
                go_wp2_with fail
                go_ret2
                exact ⟨ret_val (by rw [hv.out]; rfl), hW0.trans hE5⟩
              | false =>
                have hps3 := Lib.hid (hps2.out fun h => by rw [emp_t h] at hq; cases hq)
                go_wp2_with fail
                go_loopw [0, 15] (fun mv rv wr => ∃ (z : Nat) (t : ByteArray), z < 4096 ∧ t.size ≤ 1000 ∧ mv = .int .i64 (z : Int) ∧ rv = .string t ∧ Hid (partV y dir p.data.toList = opsV K dir z t.data.toList) ∧ Ext W0 wr) (fun _ rv _ => szOf' rv)
                case atStart => exact ⟨y, r1, hy, by omega, rfl, rfl, hps3, hE5⟩
                case round =>
                  obtain ⟨z, t2, hz, ht2, rfl, rfl, hpo, hE6⟩ := hrel
                  have hb2 := get_bt t2
                  cases hl2 : t2.data.toList with
                  | nil =>
                    have i1 := emp_t hl2
                    have hv : Hid (allV dir m (bts (l.take (k + 1))) = some z) := Lib.hid (by rw [hnx.out, hpo.out, hl2, opsV_nil])
                    clear hl2
                    go_wp2_with fail
                    go_roundw
                    case rel => exact ⟨k + 1, z, by omega, hz, rfl, by go_num, hv, hE6⟩
                    case measure => simp [intOf]; omega
                  | cons op q =>
                    obtain ⟨a1, a2, a3, a4, a5⟩ := str_hid hl2
                    rw [hl2] at hpo
                    clear hl2
                    have C3 := Lib.hid (fun w => only_any (t2.extract 1 t2.size) ⟨#[114, 119, 120, 88, 115, 116]⟩ (by have := a5.out; omega) isWhat what_ix w)
                    by_cases hop : (op == 43 || op == 45 || op == 61) = true
                    · have hpn3 : Hid (partV y dir p.data.toList = opsV K dir (applyN op K z (unionN (whatN z dir) (q.takeWhile isWhat))) (q.dropWhile isWhat)) := Lib.hid (by rw [hpo.out, opsV_cons, if_pos hop])
                      have Hop := Lib.hid hop
                      clear hop
                      go_upto_region 30 with fail
                      go_cut [100] (fun s100 wx => s100 = .bool false ∧ wx = wr)
                      case first =>
                        have hop := Hop.out
                        clear Hop
                        simp only [Bool.or_eq_true, beq_iff_eq] at hop
                        rcases hop with (rfl | rfl) | rfl
                        · have e8 : (((43 : UInt8).toNat : Nat) : Int) = 43 := rfl
                          go_wp2_with fail
                          go_meet
                          exact ⟨rfl, rfl⟩
                        · have e8 : (((45 : UInt8).toNat : Nat) : Int) = 45 := rfl
                          go_wp2_with fail
                          go_meet
                          exact ⟨rfl, rfl⟩
                        · have e8 : (((61 : UInt8).toNat : Nat) : Int) = 61 := rfl
                          go_wp2_with fail
                          go_meet
                          exact ⟨rfl, rfl⟩
                      case rest =>
                        obtain ⟨rfl, hw9⟩ := hcut
                        rw [hw9]
                        clear hw9
                        go_wp2_with fail
                        refine (C3.out _).mono ?_; rintro e w5 ⟨l3, r3, rfl, hl3, hr3, hl3s, hr3s, hx5⟩
                        have hE7a := hE6.trans hx5
                        have hl3b : l3.size ≤ 1000 := by have := a5.out; omega
                        have hb3 := get_bt l3
                        go_wp2_with fail
                        go_loopw [20, 109] (fun gv iv wr => ∃ j : Nat, j ≤ l3.size ∧ gv = .int .i64 (unionN (whatN z dir) (l3.data.toList.take j) : Int) ∧ iv = .int .i64 (j : Int) ∧ Ext W0 wr) (fun _ iv _ => l3.size - (intOf iv).toNat)
                        case atStart => exact ⟨0, by omega, rfl, rfl, hE7a⟩
                        case round =>
                          obtain ⟨j, hj, rfl, rfl, hE7⟩ := hrel
                          by_cases hjl : j < l3.size
                          · obtain ⟨c, hc⟩ : ∃ c, l3.data.toList[j]? = some c := ⟨_, List.getElem?_eq_getElem hjl⟩
                            obtain ⟨b1, b2⟩ := bt_some hc
                            have hwc : isWhat c = true := by
                              have := List.mem_of_getElem? hc
                              rw [hl3.out] at this
                              rw [a4.out] at this
                              exact mem_tw this
                            obtain ⟨y2, hy2⟩ : ∃ y2, y2 = unionN (whatN z dir) (l3.data.toList.take (j + 1)) := ⟨_, rfl⟩
                            have HU : Hid (y2 = unionN (whatN z dir) (l3.data.toList.take j) ||| whatN z dir c) := Lib.hid (hy2.trans (union_take (f := whatN z dir) hc))
                            have hx := union_lt (whatN_lt z dir) (l3.data.toList.take j)
                            replace hy2 := Lib.hid hy2
                            clear hc
                            generalize unionN (whatN z dir) (l3.data.toList.take j) = x2 at *
                            have m0 := mapHS0
                            have m1 := mapHS1
                            have m2 := mapHS2
                            have m3 := mapHS3
                            have m4 := mapHS4
                            have m5 := mapHS5
                            unfold isWhat at hwc
                            simp only [Bool.or_eq_true, beq_iff_eq] at hwc
                            rcases hwc with ((((rfl | rfl) | rfl) | rfl) | rfl) | rfl
                            · as_aux_lemma =>
                              have a3 : bt l3 j = 114 := b2
                              have lk := mapHL0
                              clear b2
                              have ho : bits .or .i64 (x2 : Int) 292 = ((y2 : Nat) : Int) := by rw [HU.out, show whatN z dir 114 = 292 from rfl]; exact or12 hx (by decide)
                              go_wp2_with fail
                              go_roundw
                              case rel => exact ⟨j + 1, by omega, by rw [hy2.out], by go_num, hE7.trans ((Ext.refl _).alloc _)⟩
                              case measure => simp [intOf]; omega
                            · as_aux_lemma =>
                              have a3 : bt l3 j = 119 := b2
                              have lk := mapHL1
                              clear b2
                              have ho : bits .or .i64 (x2 : Int) 146 = ((y2 : Nat) : Int) := by rw [HU.out, show whatN z dir 119 = 146 from rfl]; exact or12 hx (by decide)
                              go_wp2_with fail
                              go_roundw
                              case rel => exact ⟨j + 1, by omega, by rw [hy2.out], by go_num, hE7.trans ((Ext.refl _).alloc _)⟩
                              case measure => simp [intOf]; omega
                            · as_aux_lemma =>
                              have a3 : bt l3 j = 120 := b2
                              have lk := mapHL2
                              clear b2
                              have ho : bits .or .i64 (x2 : Int) 73 = ((y2 : Nat) : Int) := by rw [HU.out, show whatN z dir 120 = 73 from rfl]; exact or12 hx (by decide)
                              go_wp2_with fail
                              go_roundw
                              case rel => exact ⟨j + 1, by omega, by rw [hy2.out], by go_num, hE7.trans ((Ext.refl _).alloc _)⟩
                              case measure => simp [intOf]; omega
                            · as_aux_lemma =>
                              have a3 : bt l3 j = 88 := b2
                              have lk := mapHL3
                              clear b2
                              have ha : bits .and .i64 (z : Int) 73 = ((z &&& 73 : Nat) : Int) := and12 hz (by decide)
                              cases dir with
                              | true =>
                                have ho : bits .or .i64 (x2 : Int) 73 = ((y2 : Nat) : Int) := by rw [HU.out, show whatN z true 88 = 73 from rfl]; exact or12 hx (by decide)
                                go_wp2_with fail
                                go_roundw
                                case rel => exact ⟨j + 1, by omega, by rw [hy2.out], by go_num, hE7.trans ((Ext.refl _).alloc _)⟩
                                case measure => simp [intOf]; omega
                              | false =>
                                have hvv : Hid (whatN z false 88 = if !(z &&& 73 == 0) then 73 else 0) := Lib.hid rfl
                                cases hq9 : (z &&& 73) == 0 with
                                | true =>
                                  have e0 : z &&& 73 = 0 := by simpa using hq9
                                  have hvw : Hid (whatN z false 88 = 0) := Lib.hid (by rw [hvv.out, hq9]; rfl)
                                  have ha' : bits .and .i64 (z : Int) 73 = 0 := by rw [ha, e0]; rfl
                                  clear hq9 hvv e0 ha
                                  have ho : bits .or .i64 (x2 : Int) 0 = ((y2 : Nat) : Int) := by rw [HU.out, hvw.out]; exact or12 hx (by decide)
                                  go_wp2_with fail
                                  go_roundw
                                  case rel => exact ⟨j + 1, by omega, by rw [hy2.out], by go_num, hE7.trans ((Ext.refl _).alloc _)⟩
                                  case measure => simp [intOf]; omega
                                | false =>
                                  have hvw : Hid (whatN z false 88 = 73) := Lib.hid (by rw [hvv.out, hq9]; rfl)
                                  have hq2 : (((z &&& 73 : Nat) : Int) == 0) = false := by
                                    rw [beq_eq_false_iff_ne]
                                    have : (z &&& 73) ≠ 0 := by simpa using hq9
                                    omega
                                  generalize z &&& 73 = zq at *
                                  clear hq9 hvv
                                  have ho : bits .or .i64 (x2 : Int) 73 = ((y2 : Nat) : Int) := by rw [HU.out, hvw.out]; exact or12 hx (by decide)
                                  go_wp2_with fail
                                  go_roundw
                                  case rel => exact ⟨j + 1, by omega, by rw [hy2.out], by go_num, hE7.trans ((Ext.refl _).alloc _)⟩
                                  case measure => simp [intOf]; omega
                            · as_aux_lemma =>
                              have a3 : bt l3 j = 115 := b2
                              have lk := mapHL4
                              clear b2
                              have ho : bits .or .i64 (x2 : Int) 3072 = ((y2 : Nat) : Int) := by rw [HU.out, show whatN z dir 115 = 3072 from rfl]; exact or12 hx (by decide)
                              go_wp2_with fail
                              go_roundw
                              case rel => exact ⟨j + 1, by omega, by rw [hy2.out], by go_num, hE7.trans ((Ext.refl _).alloc _)⟩
                              case measure => simp [intOf]; omega
                            · as_aux_lemma =>
                              have a3 : bt l3 j = 116 := b2
                              have lk := mapHL5
                              clear b2
                              have ho : bits .or .i64 (x2 : Int) 512 = ((y2 : Nat) : Int) := by rw [HU.out, show whatN z dir 116 = 512 from rfl]; exact or12 hx (by decide)
                              go_wp2_with fail
                              go_roundw
                              case rel => exact ⟨j + 1, by omega, by rw [hy2.out], by go_num, hE7.trans ((Ext.refl _).alloc _)⟩
                              case measure => simp [intOf]; omega
                          · obtain rfl : j = l3.size := by omega
                            have e : unionN (whatN z dir) (l3.data.toList.take l3.size) = unionN (whatN z dir) (q.takeWhile isWhat) := by rw [List.take_of_length_le (show l3.data.toList.length ≤ l3.size from Nat.le_refl _), hl3.out, a4.out]
                            have hgl := union_lt (whatN_lt z dir) (q.takeWhile isWhat)
                            rw [e]
                            clear e
                            generalize unionN (whatN z dir) (q.takeWhile isWhat) = G at *
                            have hgg := and12 hgl hKl
                            obtain ⟨g, hg⟩ : ∃ g, g = G &&& K := ⟨_, rfl⟩
                            have hg4 : g < 4096 := by rw [hg]; exact and_lt _ hKl
                            have HA : Hid (rstep op K g z 12 = applyN op K z G) := Lib.hid (by rw [hg]; exact rstep_apply hz hKl Hop.out)
                            rw [← hg] at hgg
                            clear hg
                            have hop := Hop.out
                            clear Hop
                            simp only [Bool.or_eq_true, beq_iff_eq] at hop
                            rcases hop with (rfl | rfl) | rfl
                            · have e8 : (((43 : UInt8).toNat : Nat) : Int) = 43 := rfl
                              rw [e8]
                              go_wp2_with fail
                              go_loopw [0, 138] (fun mv iv wr => ∃ j : Nat, j ≤ 12 ∧ mv = .int .i64 (rstep 43 K g z j : Int) ∧ iv = .int .i64 (j : Int) ∧ Ext W0 wr) (fun _ iv _ => 12 - (intOf iv).toNat)
                              case atStart => exact ⟨0, by omega, rfl, rfl, hE7⟩
                              case round =>
                                obtain ⟨j, hj, rfl, rfl, hE8⟩ := hrel
                                have hr0 := rstep_lt 43 K g hz j hj
                                by_cases hj2 : j < 12
                                · have HR : Hid (rstep 43 K g z (j + 1) = if (43 == (43 : UInt8) && g.testBit j) || (43 == (61 : UInt8) && K.testBit j && g.testBit j) then rstep 43 K g z j ||| 2 ^ j else if (43 == (45 : UInt8) && g.testBit j) || (43 == (61 : UInt8) && K.testBit j) then andn (rstep 43 K g z j) (2 ^ j) else rstep 43 K g z j) := Lib.hid rfl
                                  obtain ⟨y2, hy2⟩ : ∃ y2, y2 = rstep 43 K g z (j + 1) := ⟨_, rfl⟩
                                  rw [← hy2] at HR
                                  have hq2 : Hid (Value.int .i64 (y2 : Int) = .int .i64 ((rstep 43 K g z (j + 1) : Nat) : Int)) := Lib.hid (by rw [hy2])
                                  have HBg := Lib.hid (@bit_and g j)
                                  have HBK := Lib.hid (@bit_and K j)
                                  have CP := Lib.hid (fun w => power_same 2 j (by omega) (by omega) (Nat.le_trans (pw_mono (by omega) (show j ≤ 12 by omega)) (by decide)) w)
                                  have hPe : pw 2 j = 2 ^ j := rfl
                                  rw [← hPe] at HR HBg HBK
                                  have hPl : pw 2 j < 4096 := by rw [hPe]; exact pow_lt hj2
                                  have hPp : 0 < pw 2 j := by rw [hPe]; exact Nat.two_pow_pos j
                                  clear hPe
                                  replace hy2 := Lib.hid hy2
                                  generalize pw 2 j = P at *
                                  generalize rstep 43 K g z j = x1 at *
                                  cases hbK : K.testBit j <;> cases hbg : g.testBit j
                                  · have hga : bits .and .i64 (g : Int) (P : Int) = 0 := by rw [and12 (by assumption) hPl]; exact congrArg Nat.cast (HBg.out.2 hbg)
                                    have hy3 : y2 = x1 := by rw [HR.out]; simp [hbg, hbK]
                                    subst hy3
                                    clear hbg hbK
                                    go_wp2_with fail
                                    refine (CP.out _).mono ?_; rintro e w9 ⟨rfl, hw9⟩; rw [hw9]; clear hw9 w9
                                    go_wp2_with fail
                                    go_roundw
                                    case rel => exact ⟨j + 1, Nat.succ_le_of_lt hj2, hq2.out, by go_num, hE8⟩
                                    case measure => simp [intOf]; omega
                                  · have hga : bits .and .i64 (g : Int) (P : Int) = (P : Int) := by rw [and12 (by assumption) hPl]; exact congrArg Nat.cast (HBg.out.1 hbg)
                                    have hy3 : y2 = x1 ||| P := by rw [HR.out]; simp [hbg, hbK]
                                    have ho : bits .or .i64 (x1 : Int) (P : Int) = ((y2 : Nat) : Int) := by rw [hy3]; exact or12 hr0 hPl
                                    clear hy3
                                    clear hbg hbK
                                    go_wp2_with fail
                                    refine (CP.out _).mono ?_; rintro e w9 ⟨rfl, hw9⟩; rw [hw9]; clear hw9 w9
                                    go_wp2_with fail
                                    go_roundw
                                    case rel => exact ⟨j + 1, Nat.succ_le_of_lt hj2, hq2.out, by go_num, hE8⟩
                                    case measure => simp [intOf]; omega
                                  · have hga : bits .and .i64 (g : Int) (P : Int) = 0 := by rw [and12 (by assumption) hPl]; exact congrArg Nat.cast (HBg.out.2 hbg)
                                    have hy3 : y2 = x1 := by rw [HR.out]; simp [hbg, hbK]
                                    subst hy3
                                    clear hbg hbK
                                    go_wp2_with fail
                                    refine (CP.out _).mono ?_; rintro e w9 ⟨rfl, hw9⟩; rw [hw9]; clear hw9 w9
                                    go_wp2_with fail
                                    go_roundw
                                    case rel => exact ⟨j + 1, Nat.succ_le_of_lt hj2, hq2.out, by go_num, hE8⟩
                                    case measure => simp [intOf]; omega
                                  · have hga : bits .and .i64 (g : Int) (P : Int) = (P : Int) := by rw [and12 (by assumption) hPl]; exact congrArg Nat.cast (HBg.out.1 hbg)
                                    have hy3 : y2 = x1 ||| P := by rw [HR.out]; simp [hbg, hbK]
                                    have ho : bits .or .i64 (x1 : Int) (P : Int) = ((y2 : Nat) : Int) := by rw [hy3]; exact or12 hr0 hPl
                                    clear hy3
                                    clear hbg hbK
                                    go_wp2_with fail
                                    refine (CP.out _).mono ?_; rintro e w9 ⟨rfl, hw9⟩; rw [hw9]; clear hw9 w9
                                    go_wp2_with fail
                                    go_roundw
                                    case rel => exact ⟨j + 1, Nat.succ_le_of_lt hj2, hq2.out, by go_num, hE8⟩
                                    case measure => simp [intOf]; omega
                                · obtain rfl : j = 12 := by omega
                                  rw [HA.out] at hr0 ⊢
                                  generalize applyN 43 K z G = z2 at *
                                  have hm2 : r3.size < t2.size := by have := a5.out; omega
                                  have hp4 : Hid (partV y dir p.data.toList = opsV K dir z2 r3.data.toList) := Lib.hid (by rw [hpn3.out, hr3.out, a4.out])
                                  go_wp2_with fail
                                  go_roundw
                                  case rel => exact ⟨z2, r3, hr0, by omega, rfl, rfl, hp4, hE8⟩
                                  case measure => exact hm2
                            · have e8 : (((45 : UInt8).toNat : Nat) : Int) = 45 := rfl
                              rw [e8]
                              go_wp2_with fail
                              go_loopw [0, 138] (fun mv iv wr => ∃ j : Nat, j ≤ 12 ∧ mv = .int .i64 (rstep 45 K g z j : Int) ∧ iv = .int .i64 (j : Int) ∧ Ext W0 wr) (fun _ iv _ => 12 - (intOf iv).toNat)
                              case atStart => exact ⟨0, by omega, rfl, rfl, hE7⟩
                              case round =>
                                obtain ⟨j, hj, rfl, rfl, hE8⟩ := hrel
                                have hr0 := rstep_lt 45 K g hz j hj
                                by_cases hj2 : j < 12
                                · have HR : Hid (rstep 45 K g z (j + 1) = if (45 == (43 : UInt8) && g.testBit j) || (45 == (61 : UInt8) && K.testBit j && g.testBit j) then rstep 45 K g z j ||| 2 ^ j else if (45 == (45 : UInt8) && g.testBit j) || (45 == (61 : UInt8) && K.testBit j) then andn (rstep 45 K g z j) (2 ^ j) else rstep 45 K g z j) := Lib.hid rfl
                                  obtain ⟨y2, hy2⟩ : ∃ y2, y2 = rstep 45 K g z (j + 1) := ⟨_, rfl⟩
                                  rw [← hy2] at HR
                                  have hq2 : Hid (Value.int .i64 (y2 : Int) = .int .i64 ((rstep 45 K g z (j + 1) : Nat) : Int)) := Lib.hid (by rw [hy2])
                                  have HBg := Lib.hid (@bit_and g j)
                                  have HBK := Lib.hid (@bit_and K j)
                                  have CP := Lib.hid (fun w => power_same 2 j (by omega) (by omega) (Nat.le_trans (pw_mono (by omega) (show j ≤ 12 by omega)) (by decide)) w)
                                  have hPe : pw 2 j = 2 ^ j := rfl
                                  rw [← hPe] at HR HBg HBK
                                  have hPl : pw 2 j < 4096 := by rw [hPe]; exact pow_lt hj2
                                  have hPp : 0 < pw 2 j := by rw [hPe]; exact Nat.two_pow_pos j
                                  clear hPe
                                  replace hy2 := Lib.hid hy2
                                  generalize pw 2 j = P at *
                                  generalize rstep 45 K g z j = x1 at *
                                  cases hbK : K.testBit j <;> cases hbg : g.testBit j
                                  · have hga : bits .and .i64 (g : Int) (P : Int) = 0 := by rw [and12 (by assumption) hPl]; exact congrArg Nat.cast (HBg.out.2 hbg)
                                    have hy3 : y2 = x1 := by rw [HR.out]; simp [hbg, hbK]
                                    subst hy3
                                    clear hbg hbK
                                    go_wp2_with fail
                                    refine (CP.out _).mono ?_; rintro e w9 ⟨rfl, hw9⟩; rw [hw9]; clear hw9 w9
                                    go_wp2_with fail
                                    go_roundw
                                    case rel => exact ⟨j + 1, Nat.succ_le_of_lt hj2, hq2.out, by go_num, hE8⟩
                                    case measure => simp [intOf]; omega
                                  · have hga : bits .and .i64 (g : Int) (P : Int) = (P : Int) := by rw [and12 (by assumption) hPl]; exact congrArg Nat.cast (HBg.out.1 hbg)
                                    have hy3 : y2 = andn x1 P := by rw [HR.out]; simp [hbg, hbK]
                                    have ho : bits .andNot .i64 (x1 : Int) (P : Int) = ((y2 : Nat) : Int) := by rw [hy3]; exact andn12 hr0 hPl
                                    clear hy3
                                    clear hbg hbK
                                    go_wp2_with fail
                                    refine (CP.out _).mono ?_; rintro e w9 ⟨rfl, hw9⟩; rw [hw9]; clear hw9 w9
                                    go_wp2_with fail
                                    go_roundw
                                    case rel => exact ⟨j + 1, Nat.succ_le_of_lt hj2, hq2.out, by go_num, hE8⟩
                                    case measure => simp [intOf]; omega
                                  · have hga : bits .and .i64 (g : Int) (P : Int) = 0 := by rw [and12 (by assumption) hPl]; exact congrArg Nat.cast (HBg.out.2 hbg)
                                    have hy3 : y2 = x1 := by rw [HR.out]; simp [hbg, hbK]
                                    subst hy3
                                    clear hbg hbK
                                    go_wp2_with fail
                                    refine (CP.out _).mono ?_; rintro e w9 ⟨rfl, hw9⟩; rw [hw9]; clear hw9 w9
                                    go_wp2_with fail
                                    go_roundw
                                    case rel => exact ⟨j + 1, Nat.succ_le_of_lt hj2, hq2.out, by go_num, hE8⟩
                                    case measure => simp [intOf]; omega
                                  · have hga : bits .and .i64 (g : Int) (P : Int) = (P : Int) := by rw [and12 (by assumption) hPl]; exact congrArg Nat.cast (HBg.out.1 hbg)
                                    have hy3 : y2 = andn x1 P := by rw [HR.out]; simp [hbg, hbK]
                                    have ho : bits .andNot .i64 (x1 : Int) (P : Int) = ((y2 : Nat) : Int) := by rw [hy3]; exact andn12 hr0 hPl
                                    clear hy3
                                    clear hbg hbK
                                    go_wp2_with fail
                                    refine (CP.out _).mono ?_; rintro e w9 ⟨rfl, hw9⟩; rw [hw9]; clear hw9 w9
                                    go_wp2_with fail
                                    go_roundw
                                    case rel => exact ⟨j + 1, Nat.succ_le_of_lt hj2, hq2.out, by go_num, hE8⟩
                                    case measure => simp [intOf]; omega
                                · obtain rfl : j = 12 := by omega
                                  rw [HA.out] at hr0 ⊢
                                  generalize applyN 45 K z G = z2 at *
                                  have hm2 : r3.size < t2.size := by have := a5.out; omega
                                  have hp4 : Hid (partV y dir p.data.toList = opsV K dir z2 r3.data.toList) := Lib.hid (by rw [hpn3.out, hr3.out, a4.out])
                                  go_wp2_with fail
                                  go_roundw
                                  case rel => exact ⟨z2, r3, hr0, by omega, rfl, rfl, hp4, hE8⟩
                                  case measure => exact hm2
                            · have e8 : (((61 : UInt8).toNat : Nat) : Int) = 61 := rfl
                              rw [e8]
                              go_wp2_with fail
                              go_loopw [0, 138] (fun mv iv wr => ∃ j : Nat, j ≤ 12 ∧ mv = .int .i64 (rstep 61 K g z j : Int) ∧ iv = .int .i64 (j : Int) ∧ Ext W0 wr) (fun _ iv _ => 12 - (intOf iv).toNat)
                              case atStart => exact ⟨0, by omega, rfl, rfl, hE7⟩
                              case round =>
                                obtain ⟨j, hj, rfl, rfl, hE8⟩ := hrel
                                have hr0 := rstep_lt 61 K g hz j hj
                                by_cases hj2 : j < 12
                                · have HR : Hid (rstep 61 K g z (j + 1) = if (61 == (43 : UInt8) && g.testBit j) || (61 == (61 : UInt8) && K.testBit j && g.testBit j) then rstep 61 K g z j ||| 2 ^ j else if (61 == (45 : UInt8) && g.testBit j) || (61 == (61 : UInt8) && K.testBit j) then andn (rstep 61 K g z j) (2 ^ j) else rstep 61 K g z j) := Lib.hid rfl
                                  obtain ⟨y2, hy2⟩ : ∃ y2, y2 = rstep 61 K g z (j + 1) := ⟨_, rfl⟩
                                  rw [← hy2] at HR
                                  have hq2 : Hid (Value.int .i64 (y2 : Int) = .int .i64 ((rstep 61 K g z (j + 1) : Nat) : Int)) := Lib.hid (by rw [hy2])
                                  have HBg := Lib.hid (@bit_and g j)
                                  have HBK := Lib.hid (@bit_and K j)
                                  have CP := Lib.hid (fun w => power_same 2 j (by omega) (by omega) (Nat.le_trans (pw_mono (by omega) (show j ≤ 12 by omega)) (by decide)) w)
                                  have hPe : pw 2 j = 2 ^ j := rfl
                                  rw [← hPe] at HR HBg HBK
                                  have hPl : pw 2 j < 4096 := by rw [hPe]; exact pow_lt hj2
                                  have hPp : 0 < pw 2 j := by rw [hPe]; exact Nat.two_pow_pos j
                                  clear hPe
                                  replace hy2 := Lib.hid hy2
                                  generalize pw 2 j = P at *
                                  generalize rstep 61 K g z j = x1 at *
                                  cases hbK : K.testBit j <;> cases hbg : g.testBit j
                                  · have hga : bits .and .i64 (g : Int) (P : Int) = 0 := by rw [and12 (by assumption) hPl]; exact congrArg Nat.cast (HBg.out.2 hbg)
                                    have hka : bits .and .i64 (K : Int) (P : Int) = 0 := by rw [and12 (by assumption) hPl]; exact congrArg Nat.cast (HBK.out.2 hbK)
                                    have hy3 : y2 = x1 := by rw [HR.out]; simp [hbg, hbK]
                                    subst hy3
                                    clear hbg hbK
                                    go_wp2_with fail
                                    refine (CP.out _).mono ?_; rintro e w9 ⟨rfl, hw9⟩; rw [hw9]; clear hw9 w9
                                    go_wp2_with fail
                                    go_roundw
                                    case rel => exact ⟨j + 1, Nat.succ_le_of_lt hj2, hq2.out, by go_num, hE8⟩
                                    case measure => simp [intOf]; omega
                                  · have hga : bits .and .i64 (g : Int) (P : Int) = (P : Int) := by rw [and12 (by assumption) hPl]; exact congrArg Nat.cast (HBg.out.1 hbg)
                                    have hka : bits .and .i64 (K : Int) (P : Int) = 0 := by rw [and12 (by assumption) hPl]; exact congrArg Nat.cast (HBK.out.2 hbK)
                                    have hy3 : y2 = x1 := by rw [HR.out]; simp [hbg, hbK]
                                    subst hy3
                                    clear hbg hbK
                                    go_wp2_with fail
                                    refine (CP.out _).mono ?_; rintro e w9 ⟨rfl, hw9⟩; rw [hw9]; clear hw9 w9
                                    go_wp2_with fail
                                    go_roundw
                                    case rel => exact ⟨j + 1, Nat.succ_le_of_lt hj2, hq2.out, by go_num, hE8⟩
                                    case measure => simp [intOf]; omega
                                  · have hga : bits .and .i64 (g : Int) (P : Int) = 0 := by rw [and12 (by assumption) hPl]; exact congrArg Nat.cast (HBg.out.2 hbg)
                                    have hka : bits .and .i64 (K : Int) (P : Int) = (P : Int) := by rw [and12 (by assumption) hPl]; exact congrArg Nat.cast (HBK.out.1 hbK)
                                    have hy3 : y2 = andn x1 P := by rw [HR.out]; simp [hbg, hbK]
                                    have ho : bits .andNot .i64 (x1 : Int) (P : Int) = ((y2 : Nat) : Int) := by rw [hy3]; exact andn12 hr0 hPl
                                    clear hy3
                                    clear hbg hbK
                                    go_wp2_with fail
                                    refine (CP.out _).mono ?_; rintro e w9 ⟨rfl, hw9⟩; rw [hw9]; clear hw9 w9
                                    go_wp2_with fail
                                    go_roundw
                                    case rel => exact ⟨j + 1, Nat.succ_le_of_lt hj2, hq2.out, by go_num, hE8⟩
                                    case measure => simp [intOf]; omega
                                  · have hga : bits .and .i64 (g : Int) (P : Int) = (P : Int) := by rw [and12 (by assumption) hPl]; exact congrArg Nat.cast (HBg.out.1 hbg)
                                    have hka : bits .and .i64 (K : Int) (P : Int) = (P : Int) := by rw [and12 (by assumption) hPl]; exact congrArg Nat.cast (HBK.out.1 hbK)
                                    have hy3 : y2 = x1 ||| P := by rw [HR.out]; simp [hbg, hbK]
                                    have ho : bits .or .i64 (x1 : Int) (P : Int) = ((y2 : Nat) : Int) := by rw [hy3]; exact or12 hr0 hPl
                                    clear hy3
                                    clear hbg hbK
                                    go_wp2_with fail
                                    refine (CP.out _).mono ?_; rintro e w9 ⟨rfl, hw9⟩; rw [hw9]; clear hw9 w9
                                    go_wp2_with fail
                                    go_roundw
                                    case rel => exact ⟨j + 1, Nat.succ_le_of_lt hj2, hq2.out, by go_num, hE8⟩
                                    case measure => simp [intOf]; omega
                                · obtain rfl : j = 12 := by omega
                                  rw [HA.out] at hr0 ⊢
                                  generalize applyN 61 K z G = z2 at *
                                  have hm2 : r3.size < t2.size := by have := a5.out; omega
                                  have hp4 : Hid (partV y dir p.data.toList = opsV K dir z2 r3.data.toList) := Lib.hid (by rw [hpn3.out, hr3.out, a4.out])
                                  go_wp2_with fail
                                  go_roundw
                                  case rel => exact ⟨z2, r3, hr0, by omega, rfl, rfl, hp4, hE8⟩
                                  case measure => exact hm2
                    · have o1 : op ≠ 43 := fun h => hop (by rw [h]; rfl)
                      have o2 : op ≠ 45 := fun h => hop (by rw [h]; rfl)
                      have o3 : op ≠ 61 := fun h => hop (by rw [h]; rfl)
                      have n1 : ((op.toNat : Int) == 43) = false := ne_u8 o1
                      have n2 : ((op.toNat : Int) == 45) = false := ne_u8 o2
                      have n3 : ((op.toNat : Int) == 61) = false := ne_u8 o3
                      have n4 : ((op.toNat : Int) != 43) = true := by rw [bne, n1]; rfl
                      have n5 : ((op.toNat : Int) != 45) = true := by rw [bne, n2]; rfl
                      have n6 : ((op.toNat : Int) != 61) = true := by rw [bne, n3]; rfl
                      have hv : Hid (R = .tuple #[.int .i64 0, .int .i64 3]) := Lib.hid (hRn.out (by rw [hpo.out, opsV_cons, if_neg hop]))
                      clear o1 o2 o3 n1 n2 n3 hop
                      go_wp2_with fail
                      go_ret2
                      exact ⟨ret_val (by rw [hv.out]; rfl), hW0.trans hE6⟩
      · obtain rfl : k = l.length := by omega
        have hv : Hid (R = .tuple #[.int .i64 (y : Int), .int .i64 0]) := Lib.hid (by
          have := hall.out
          rw [List.take_length] at this
          rw [HR.out, this]
          rfl)
        go_wp2_with fail
        go_ret2
        exact ⟨ret_val (by rw [hv.out]; rfl), hW0.trans hE⟩
end Go.Proofs.YtbofobakphlpbaaDoor
