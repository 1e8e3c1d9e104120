/- Put (be): walks. -/
import Derived.Test.YtldjecilmcnpiaaDigits
set_option linter.unusedVariables false
namespace Go.Proofs.Ytldjecilmcnpiaa
open Go.RowKit Go.Shelf

set_option maxHeartbeats 1000000 in
theorem Put_yes (A : Option Addr) (n c : Nat) (bs : List Int) (x : Int) (s : Nat) (w : World) (h : RB w A n c bs) (hn : n ≤ 100000) (hf : fitsP x s) :
    Calls Try.prog 72 #[.slice A n c, .int .i64 x, .int .i64 s] w (Fresh w (n + s) (bs ++ digL x s)) := by
  obtain ⟨⟨h1, h2⟩, h3, h4⟩ := hf
  have hx : x ≤ 4294967295 := by
    have hs4 : s ≤ 4 := by omega
    have h5 : (256 : Int) ^ s ≤ 4294967296 := by
      have hc : s = 0 ∨ s = 1 ∨ s = 2 ∨ s = 3 ∨ s = 4 := by omega
      rcases hc with rfl | rfl | rfl | rfl | rfl <;> decide
    rw [Int.toNat_natCast] at h4; omega
  have hfb := fitsB_yes (n := x) (s := s) ⟨⟨h1, h2⟩, h3, h4⟩
  have hC := Lib.hid (Clone_any A n c bs w h (by omega))
  replace hfb := Lib.hid hfb
  clear h h4
  go_enter Try.func72, Try.ntmps72
  go_wp2_with fail
  refine hC.out.mono ?_
  rintro e w1 ⟨A2, c2, rfl, ho, hb1⟩
  go_wp2_with fail
  refine (Fits_any x s _).mono ?_
  rintro e w1' ⟨rfl, rfl⟩
  rw [hfb.out]
  go_wp2_with (go_at_call 105; refine (digits_call x s _).mono ?_; rintro e w' ⟨rfl, rfl⟩)
  have hsz := hb1.size
  have hown : ∀ k, ownBlk A2 = some k → k < w1.heap.size := fun k hk => (ho.blk hk).2
  have ho1 := (ho.alloc (.cells #[.int .i64 x] 3)).alloc (.cells #[.int .i64 s] 3)
  have hbn := (Boxed.new w1 3 (.int .i64 x)).alloc (.cells #[.int .i64 s] 3)
  have hbs := Boxed.new (w1.alloc (.cells #[.int .i64 x] 3)) 3 (.int .i64 s)
  rw [World.size_alloc] at hbs
  have hA := Lib.hid (AppendSeq_any A2 n c2 w.heap.size 135 #[.pointer (some ⟨w1.heap.size + 1, 0, none⟩), .pointer (some ⟨w1.heap.size, 0, none⟩)] bs (digL x s) _ ho1 (by simp; omega) hn (by rw [digL_length]; omega) (digL_byts x s)
    (enters_of Try.func135 (by kernel_rfl) rfl)
    (fun W hW => digits_seq w1.heap.size (w1.heap.size + 1) x s _ W (hbn.below hW) (hbs.below hW) (by omega) h3 (fun h => h.elim (fun e => by simp only [World.size_alloc] at e; omega) (fun e => by have := hown _ e; omega)) (fun h => h.elim (fun e => by simp only [World.size_alloc] at e; omega) (fun e => by have := hown _ e; omega))))
  refine hA.out.mono ?_
  rintro e w2 ⟨A3, c3, rfl, ho3, hb3⟩
  go_wp2
  go_ret
  rw [digL_length] at ho3
  exact ⟨A3, c3, by rw [digL_length]; rfl, ho3, ((hb1.alloc hsz _).alloc (by simp; omega) _).trans hb3⟩

set_option maxHeartbeats 1000000 in
theorem Put_no (A : Option Addr) (n c : Nat) (bs : List Int) (x s : Int) (w : World) (h : RB w A n c bs) (hn : n ≤ 100000) (hf : ¬ fitsP x s) :
    Calls Try.prog 72 #[.slice A n c, .int .i64 x, .int .i64 s] w (Fresh w n bs) := by
  have hfb := Lib.hid (fitsB_no hf)
  have hF := fun w => Fits_any x s w
  have hC := Lib.hid (Clone_any A n c bs w h (by omega))
  replace hF := Lib.hid hF
  clear h hf
  go_enter Try.func72, Try.ntmps72
  go_wp2_with fail
  refine hC.out.mono ?_
  rintro e w1 ⟨A2, c2, rfl, ho, hb1⟩
  go_wp2_with fail
  refine (hF.out _).mono ?_
  rintro e w1' ⟨rfl, rfl⟩
  rw [hfb.out]
  go_wp2
  go_ret
  exact ⟨A2, c2, rfl, ho, hb1⟩
end Go.Proofs.Ytldjecilmcnpiaa
