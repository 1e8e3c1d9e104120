/- The law PcpPlain: its walk. -/
import Derived.Test.YtldjecilmcnpiaaPcpW
set_option linter.unusedVariables false
namespace Go.Proofs.Ytldjecilmcnpiaa
open Go Go.RowKit

theorem eqt_six : EqT 44 16 := ⟨by kernel_rfl, by kernel_rfl, (by rw [Try.underlying44]; rintro ⟨q, hq⟩; cases hq), by kernel_rfl⟩
theorem cells6_size {s : List Int} (hs : Six s) : (cells6 s).size = 16 := by simp [u8s_length, hs.len]
theorem cells6_nums (s : List Int) : ∀ u ∈ (cells6 s).toList, Num u := nums_u8 s
theorem en_PMapped (args : Array Value) (w : World) : (callFunc 26 args).run Try.prog w = .ok (.enter 26 args) w := enters Try.func26 (by kernel_rfl) (by kernel_rfl) args w
theorem en_PAwake (args : Array Value) (w : World) : (callFunc 27 args).run Try.prog w = .ok (.enter 27 args) w := enters Try.func27 (by kernel_rfl) (by kernel_rfl) args w
set_option maxRecDepth 100000 in
set_option maxHeartbeats 2000000 in
theorem PcpPlain_walk (a : Int) (s : List Int) (w : World) (h0 : 0 ≤ a) (h1 : a ≤ 4294967295) (hs : Six s) :
    Calls Try.prog 6 #[.int .u32 a, .agg (cells6 s)] w fun e w' => e = .returned (.bool true) ∧ Below w.heap.size w w' := by
  have hk := Lib.hid (Blk.new w (cells6 s) 44)
  have hb := Lib.hid ((Below.refl _ w).alloc (Nat.le_refl _) (.cells (cells6 s) 44))
  have hwa : IntKind.i64.wrap a = a := by rw [IntKind.wrap_i64]; omega
  have hM := Lib.hid (fun W => Mapped_any a W)
  have hPa := Lib.hid (fun W => Plain_any (mapL a) (mapL_six a) W)
  have hpa := plainV_map a h0 (by omega)
  rw [hpa] at hPa
  have hPs := Lib.hid (fun W => Plain_any s hs W)
  have h16 := Lib.hid (cells6_size hs)
  have hback := Lib.hid (map_plain s hs)
  have hMb := Lib.hid (fun W => Mapped_any (plainV s).1 W)
  have hV := Lib.hid (show (Try.prog.info? 44).map (·.size) = some (cells6 s).size by rw [h16.out]; exact info_six)
  have hnum := Lib.hid (cells6_nums s)
  have hle := Lib.hid (show Try.prog.cellsOf 44 ≤ (cells6 s).size from Nat.le_of_eq (eqt_six.2.2.2.trans h16.out.symm))
  clear hpa hs
  generalize mapL a = m at *
  generalize plainV s = pl at *
  obtain ⟨x, q⟩ := pl
  dsimp only at hPs hMb hback hPa
  go_enter Try.func6, Try.ntmps6
  go_upto_region 2 with (first
    | (go_at_call 26; refine (hM.out _).mono ?_; rintro e w1 ⟨rfl, hB1⟩; have hk1 := Lib.hid (hk.out.to hB1); have hb1 := Lib.hid (hb.out.trans (hB1.mono hb.out.size)); clear hB1)
    | (go_at_call 25; refine (hPa.out _).mono ?_; rintro e w2 ⟨rfl, hB2⟩; have hk2 := Lib.hid (hk1.out.to hB2); have hb2 := Lib.hid (hb1.out.trans (hB2.mono hb1.out.size)); clear hB2)
    | fail)
  go_upto_region 3 with (first
    | (refine wpList_load_S6 rfl (.tmp 3) rfl w.heap.size rfl (cells6 s) hk2.out h16.out ?_)
    | (go_at_call 25; refine (hPs.out _).mono ?_; rintro e w3 ⟨rfl, hB3⟩; have hk3 := Lib.hid (hk2.out.to hB3); have hb3 := Lib.hid (hb2.out.trans (hB3.mono hb2.out.size)); clear hB3)
    | fail)
  have hK := Lib.hid (show ∀ W W', (fun W => Below w3.heap.size w3 W) W → Below W.heap.size W W' → (fun W => Below w3.heap.size w3 W) W' from fun W W' h1 h2 => h1.trans (h2.mono h1.size))
  have hA := Lib.hid (fun W (hW : Below w3.heap.size w3 W) => (hk3.out.to hW).at_)
  cases q
  · refine wp_region_tame (fun W => Below w3.heap.size w3 W) (by kernel_rfl) (by kernel_rfl) (Below.refl _ _).drew ?_
    repeat (first
      | (refine tameL_skip rfl ?_; simp only [Act.put, List.setIfInBounds_toArray, List.set_cons_zero, List.set_cons_succ])
      | (refine tameL_call0 (v := .bool true) rfl 27 _ rfl en_PAwake ?_ ?_; exact fun W hS => (PAwake_any W).mono fun e W' ⟨he, hb⟩ => ⟨he, hK.out W W' hS hb⟩; simp only [Act.put, List.setIfInBounds_toArray, List.set_cons_zero, List.set_cons_succ])
      | (refine tameL_val (v := ?_) rfl (fun W hS => ?_) ?_; rotate_left; (· (clear hS; go_simp; try with_reducible rfl)); simp only [Act.put, List.setIfInBounds_toArray, List.set_cons_zero, List.set_cons_succ]))
    refine tameL_nil fun W hS => ?_
    go_wp2
    go_ret
    exact ⟨rfl, hb3.out.trans (hS.mono hb3.out.size)⟩
  · have hbk := hback.out rfl
    rw [hbk] at hMb
    replace hback := 0
    refine wp_region_tame (fun W => Below w3.heap.size w3 W) (by kernel_rfl) (by kernel_rfl) (Below.refl _ _).drew ?_
    repeat (first
      | (refine tameL_skip rfl ?_; simp only [Act.put, List.setIfInBounds_toArray, List.set_cons_zero, List.set_cons_succ])
      | (refine tameL_call0 (v := .bool true) rfl 27 _ rfl en_PAwake ?_ ?_; exact fun W hS => (PAwake_any W).mono fun e W' ⟨he, hb⟩ => ⟨he, hK.out W W' hS hb⟩; simp only [Act.put, List.setIfInBounds_toArray, List.set_cons_zero, List.set_cons_succ])
      | (refine tameL_call1 (v := .agg (cells6 s)) rfl 26 (.tmp 32) _ rfl en_PMapped rfl ?_ ?_; exact fun W hS => (hMb.out W).mono fun e W' ⟨he, hb⟩ => ⟨he, hK.out W W' hS hb⟩; simp only [Act.put, List.setIfInBounds_toArray, List.set_cons_zero, List.set_cons_succ])
      | (refine tameL_row rfl 44 (.tmp 3) rfl w.heap.size rfl _ (cells6 s) _ _ (fun W hS => hA.out W hS) Try.underlying44 rfl hV.out ?_; simp only [Act.put, List.setIfInBounds_toArray, List.set_cons_zero, List.set_cons_succ])
      | (refine tameL_val (v := .bool true) rfl (fun W hS => exec_eql_same 44 (.tmp 33) (.tmp 34) rfl (cells6 s) rfl rfl eqt_six.1 eqt_six.2.1 eqt_six.2.2.1 hle.out hnum.out) ?_; simp only [Act.put, List.setIfInBounds_toArray, List.set_cons_zero, List.set_cons_succ])
      | (refine tameL_val (v := ?_) rfl (fun W hS => ?_) ?_; rotate_left; (· (clear hS; go_simp; try with_reducible rfl)); simp only [Act.put, List.setIfInBounds_toArray, List.set_cons_zero, List.set_cons_succ]))
    refine tameL_nil fun W hS => ?_
    go_wp2
    go_ret
    exact ⟨rfl, hb3.out.trans (hS.mono hb3.out.size)⟩
end Go.Proofs.Ytldjecilmcnpiaa
