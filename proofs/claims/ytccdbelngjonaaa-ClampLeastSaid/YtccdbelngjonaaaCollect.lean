/- slices.Collect of bytes. -/
import Derived.Test.YtccdbelngjonaaaSeq
set_option linter.unusedVariables false
namespace Go.Proofs.Ytccdbelngjonaaa
open Go.RowKit Go.Shelf

set_option maxHeartbeats 400000 in
theorem Collect_any (gf : Nat) (lb : Array Value) (ys : List Int) (w : World) (hy : ys.length ≤ 100000) (hyb : Byts ys)
    (eg : ∀ args w, (callFunc gf args).run Try.prog w = .ok (.enter gf args) w)
    (hseq : ∀ W, Below w.heap.size w W → SeqIs Try.prog gf lb (byteE ys) (fun k => k = w.heap.size ∨ ownBlk none = some k) W) :
    Calls Try.prog 104 #[.func (.func gf) #[] lb] w (Fresh w ys.length ys) := by
  have hc := AppendSeq_any none 0 0 w.heap.size gf lb [] ys w (OB.nil w _) (Nat.le_refl _) (by omega) hy hyb eg hseq
  rw [Nat.zero_add, List.nil_append] at hc
  replace hc := Lib.hid hc
  clear eg hseq hy hyb
  go_enter Try.func104, Try.ntmps104
  go_wp2_with fail
  refine hc.out.mono ?_
  rintro e w' ⟨A2, c2, rfl, ho, hb⟩
  generalize ys.length = m at *
  go_wp2
  go_ret
  exact ⟨A2, c2, rfl, ho, hb⟩

end Go.Proofs.Ytccdbelngjonaaa
