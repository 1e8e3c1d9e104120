/- The laws of pcp: awake; what is built, parsed. -/
import Derived.Test.YtldjecilmcnpiaaPcpK
import Derived.Test.YtldjecilmcnpiaaPcpL
import Derived.Test.YtldjecilmcnpiaaRefl
import Derived.Deep.DeepCutAuto
set_option linter.unusedVariables false
namespace Go.Proofs.Ytldjecilmcnpiaa
open Go Go.RowKit

theorem nums_u8 (s : List Int) : ∀ u ∈ u8s s, Num u := fun u hu => by
  obtain ⟨x, _, rfl⟩ := List.mem_map.1 hu
  exact ⟨_, _, rfl⟩
theorem rowA_nums (a : AskP) : ∀ u ∈ (rowA a).toArray.toList, Num u := fun u hu => by
  simp only [rowA, List.mem_cons, List.mem_append, List.not_mem_nil, or_false] at hu
  rcases hu with rfl | hu | hu | rfl | rfl | rfl | rfl
  · exact ⟨_, _, rfl⟩
  · exact nums_u8 _ u hu
  · exact nums_u8 _ u hu
  · exact ⟨_, _, rfl⟩
  · exact ⟨_, _, rfl⟩
  · exact ⟨_, _, rfl⟩
  · exact ⟨_, _, rfl⟩
theorem rowT_nums (t : ToldP) : ∀ u ∈ (rowT t).toArray.toList, Num u := fun u hu => by
  simp only [rowT, List.mem_cons] at hu
  rcases hu with rfl | rfl | hu
  · exact ⟨_, _, rfl⟩
  · exact ⟨_, _, rfl⟩
  · exact rowA_nums t.ask u hu
def EqT (t : TypeId) (n : Nat) : Prop := Try.prog.eqGuardType Try.prog.depth t = false ∧ intTy Try.prog 5 t = true ∧ (¬ ∃ q, Try.prog.underlying t = some (.int q)) ∧ Try.prog.cellsOf t = n
theorem eqt_ask : EqT 51 33 := ⟨by kernel_rfl, by kernel_rfl, (by rw [Try.underlying51]; rintro ⟨q, hq⟩; cases hq), by kernel_rfl⟩
theorem eqt_told : EqT 58 35 := ⟨by kernel_rfl, by kernel_rfl, (by rw [Try.underlying58]; rintro ⟨q, hq⟩; cases hq), by kernel_rfl⟩

section
variable (a : AskP) (h : AskOk a) (hm : mayB a = true) (w : World)
include h hm
theorem BuildYes : Calls Try.prog 34 #[.agg (rowA a).toArray] w fun e w' => ∃ A2 c2, e = .returned (.tuple #[.slice A2 60 c2, .int .i64 0]) ∧ RB w' A2 60 c2 (bytesAsk a) ∧ Below w.heap.size w w' :=
  (PcpBuild_any a h w).mono fun e w' ⟨A2, n2, c2, he, hr, hb⟩ => by
    have h1 : builtAsk a = bytesAsk a := by unfold builtAsk; rw [if_pos hm]
    have h2 : codeAsk a = 0 := by unfold codeAsk; rw [if_pos hm]
    rw [h1] at hr
    rw [h2] at he
    have := hr.len
    rw [ask_len h] at this
    subst this
    exact ⟨A2, c2, he, hr, hb⟩
theorem ParseYes (A : Option Addr) (c : Nat) (hr : RB w A 60 c (bytesAsk a)) : Calls Try.prog 28 #[.slice A 60 c] w fun e w' => e = .returned (.tuple #[.agg (rowA a).toArray, .int .i64 0]) ∧ Below w.heap.size w w' :=
  (PParse_any A 60 c (bytesAsk a) w hr (by decide)).mono fun e w' ⟨he, hb⟩ => by
    rw [ask_read h hm, ask_code h hm, if_pos rfl] at he
    exact ⟨he, hb⟩
theorem ReadNo (A : Option Addr) (c : Nat) (hr : RB w A 60 c (bytesAsk a)) : Calls Try.prog 30 #[.slice A 60 c] w fun e w' => e = .returned (.tuple #[.agg zTc, .int .i64 4]) ∧ Below w.heap.size w w' :=
  (PTold_any A 60 c (bytesAsk a) w hr (by decide)).mono fun e w' ⟨he, hb⟩ => by
    have hc : codeP 129 (bytesAsk a) = 4 := by rw [ask_code h hm]; rfl
    unfold readT at he
    rw [hc, if_neg (by decide)] at he
    exact ⟨he, hb⟩
end
def awA : AskP := ⟨60, mapL 8, z12, 17, 5, 6, 7⟩
theorem awA_ok : AskOk awA := ⟨(mapL_six 8).len, rfl, (mapL_six 8).byt, z12_byts⟩
theorem awA_may : mayB awA = true := by decide
theorem built_aw : Try.prog.built 51 [(0, .int .i64 60), (3, .int .i64 17), (4, .int .i64 5), (5, .int .i64 6), (6, .int .i64 7), (1, .agg (cells6 (mapL 8)))] = some (rowA awA).toArray := by kernel_rfl
set_option maxRecDepth 100000 in
set_option maxHeartbeats 2000000 in
theorem PAwake_any (w : World) : Calls Try.prog 27 #[] w fun e w' => e = .returned (.bool true) ∧ Below w.heap.size w w' := by
  have hM := Lib.hid (fun W => Mapped_any 8 W)
  have hbt := Lib.hid built_aw
  have hsz := Lib.hid (rowA_size awA_ok)
  have hB := Lib.hid (fun W => BuildYes awA awA_ok awA_may W)
  have hP := Lib.hid (fun W A c hr => ParseYes awA awA_ok awA_may W A c hr)
  have hnum := Lib.hid (rowA_nums awA)
  generalize awA = a at *
  generalize mapL 8 = m at *
  go_enter Try.func27, Try.ntmps27
  go_upto_region 2 with (first
    | (go_at_call 26; refine (hM.out _).mono ?_; rintro e w1 ⟨rfl, hB1⟩; have hb1 := Lib.hid hB1; clear hB1)
    | (refine wpList_built (by rfl) 51 _ rfl [(0, .int .i64 60), (3, .int .i64 17), (4, .int .i64 5), (5, .int .i64 6), (6, .int .i64 7), (1, .agg (cells6 m))] rfl (rowA a).toArray hbt.out ?_)
    | (refine wpList_store_K rfl (.tmp 1) (.tmp 7) rfl w1.heap.size (rowA a).toArray rfl rfl zAc (Blk.new w1 zAc 51) rfl hsz.out rowA_one ?_)
    | fail)
  obtain ⟨w2, hw2⟩ : ∃ w2, (w1.alloc (.cells zAc 51)).setRow w1.heap.size (rowA a).toArray = w2 := ⟨_, rfl⟩
  have k2 := Lib.hid (show Blk w2 w1.heap.size (rowA a).toArray 51 by rw [← hw2]; exact ⟨setRow_heap _ _ _ _ _ _ (Blk.new w1 zAc 51).at_⟩)
  have hb2 := Lib.hid (show Below w.heap.size w w2 by rw [← hw2]; exact below_row (hb1.out.alloc hb1.out.size _) hb1.out.size _)
  rw [hw2]
  clear hw2
  simp only [Act.put]
  go_upto_region 4 with (first
    | (refine wpList_load_K rfl (.tmp 1) rfl w1.heap.size rfl (rowA a).toArray k2.out hsz.out ?_)
    | (go_at_call 34; refine (hB.out _).mono ?_; rintro e w3 ⟨A3, c3, rfl, hr3, hB3⟩; have k3 := Lib.hid (k2.out.to hB3); have hb3 := Lib.hid (hb2.out.trans (hB3.mono hb2.out.size)); replace hr3 := Lib.hid hr3; clear hB3)
    | (go_at_call 28; refine (hP.out _ _ _ hr3.out).mono ?_; rintro e w4 ⟨rfl, hB4⟩; have k4 := Lib.hid (k3.out.to hB4); have hb4 := Lib.hid (hb3.out.trans (hB4.mono hb3.out.size)); clear hB4)
    | (refine wpList_store_K rfl (.tmp 4) (.tmp 16) rfl w4.heap.size (rowA a).toArray rfl rfl zAc (Blk.new w4 zAc 51) rfl hsz.out rowA_one ?_)
    | fail)
  obtain ⟨w5, hw5⟩ : ∃ w5, (w4.alloc (.cells zAc 51)).setRow w4.heap.size (rowA a).toArray = w5 := ⟨_, rfl⟩
  have k5 := Lib.hid (show Blk w5 w4.heap.size (rowA a).toArray 51 by rw [← hw5]; exact ⟨setRow_heap _ _ _ _ _ _ (Blk.new w4 zAc 51).at_⟩)
  have hb45 : Below w4.heap.size w4 w5 := by rw [← hw5]; exact below_row ((Below.refl _ w4).alloc (Nat.le_refl _) _) (Nat.le_refl _) _
  have k6 := Lib.hid (k4.out.to hb45)
  have hb5 := Lib.hid (hb4.out.trans (hb45.mono hb4.out.size))
  rw [hw5]
  clear hw5 hb45
  go_wp2_with (first
    | (refine wpList_load_K (by rfl) (.tmp 4) rfl w4.heap.size rfl (rowA a).toArray k5.out hsz.out ?_)
    | (refine wpList_load_K (by rfl) (.tmp 1) rfl w1.heap.size rfl (rowA a).toArray k6.out hsz.out ?_)
    | (refine wpList_eql_same (by rfl) 51 (.tmp 30) (.tmp 31) rfl (rowA a).toArray rfl rfl eqt_ask.1 eqt_ask.2.1 eqt_ask.2.2.1 (Nat.le_of_eq (eqt_ask.2.2.2.trans hsz.out.symm)) hnum.out ?_)
    | fail)
  go_ret
  exact ⟨rfl, hb5.out⟩
end Go.Proofs.Ytldjecilmcnpiaa
