/- Fragments of IPv4 (cut4): kindOf, follows. -/
import Derived.Test.YtipigcpenmcaoaaCut4K
import Derived.Test.YtipigcpenmcaoaaV4S
import Derived.Laws.StructEq
import Derived.BigRegion
import Derived.Test.YtipigcpenmcaoaaRow4
import Derived.Test.YtipigcpenmcaoaaV4R
set_option linter.unusedVariables false
namespace Go.Proofs.Ytipigcpenmcaoaa
open Go Go.RowKit
attribute [local go_sem] Oper.semAt_some

def follows4 (a b : V4P) : Bool := a.mf && ((a.src == b.src) && ((a.dst == b.dst) && ((a.pr == b.pr) && ((a.id == b.id) && (b.off == a.off + a.data.length)))))
set_option maxHeartbeats 1000000 in
theorem KindOf_any (p : V4P) (Ao : Option Addr) (no co : Nat) (A : Option Addr) (n c : Nat) (w : World) :
    Calls Try.prog 106 #[.agg (cells4 p Ao no co A n c)] w fun e w' => e = .returned (.agg #[.int .i64 p.src, .int .i64 p.dst, .int .i64 p.pr, .int .i64 p.id]) ∧ Below w.heap.size w w' := by
  have hb := Lib.hid ((Below.refl _ w).alloc (Nat.le_refl _) (.cells (cells4 p Ao no co A n c) 24))
  go_enter Try.func106, Try.ntmps106
  go_wp2
  exact bodyPost_ret (v := .agg #[.int .i64 p.src, .int .i64 p.dst, .int .i64 p.pr, .int .i64 p.id]) (by simp [results, Try.results106, go_sem]) rfl ⟨rfl, hb.out.alloc hb.out.size _⟩
theorem en_Cut4KindOf (args : Array Value) (w : World) : (callFunc 106 args).run Try.prog w = .ok (.enter 106 args) w := enters Try.func106 (by kernel_rfl) (by kernel_rfl) args w
set_option maxRecDepth 100000 in
set_option maxHeartbeats 2000000 in
theorem Follows4_any (p q : V4P) (Ao : Option Addr) (no co : Nat) (A : Option Addr) (n c : Nat) (Ao' : Option Addr) (no' co' : Nat) (A' : Option Addr) (n' c' : Nat) (w : World) (hpn : p.data.length = n) (h0 : 0 ≤ p.off) (h1 : p.off ≤ 65535) (hn : n ≤ 100000) :
    Calls Try.prog 62 #[.agg (cells4 p Ao no co A n c), .agg (cells4 q Ao' no' co' A' n' c')] w fun e w' => e = .returned (.bool (follows4 p q)) ∧ Below w.heap.size w w' := by
  obtain ⟨w0, hw0⟩ : ∃ w0, (w.alloc (.cells (cells4 p Ao no co A n c) 24)).alloc (.cells (cells4 q Ao' no' co' A' n' c') 24) = w0 := ⟨_, rfl⟩
  have k1 : Blk w0 w.heap.size (cells4 p Ao no co A n c) 24 := by rw [← hw0]; exact (Blk.new w _ _).alloc _
  have k2 : Blk w0 (w.heap.size + 1) (cells4 q Ao' no' co' A' n' c') 24 := by
    rw [← hw0]
    have := Blk.new (w.alloc (.cells (cells4 p Ao no co A n c) 24)) (cells4 q Ao' no' co' A' n' c') 24
    rwa [World.size_alloc] at this
  have hb := Lib.hid (show Below w.heap.size w w0 by rw [← hw0]; exact ((Below.refl _ w).alloc (Nat.le_refl _) _).alloc (by simp) _)
  have hK := Lib.hid (show ∀ W W', (fun W => Below w0.heap.size w0 W) W → Below W.heap.size W W' → (fun W => Below w0.heap.size w0 W) W' from fun W W' h1 h2 => h1.trans (h2.mono h1.size))
  have hA := Lib.hid (fun W (hW : Below w0.heap.size w0 W) => (k1.to hW).at_)
  have hA' := Lib.hid (fun W (hW : Below w0.heap.size w0 W) => (k2.to hW).at_)
  have hV := Lib.hid (show (Try.prog.info? 24).map (·.size) = some (cells4 p Ao no co A n c).size from info_v4)
  have hV' := Lib.hid (show (Try.prog.info? 24).map (·.size) = some (cells4 q Ao' no' co' A' n' c').size from info_v4)
  have hC1 := Lib.hid (show ∀ W, (fun W => Below w0.heap.size w0 W) W → W.cell? ⟨w.heap.size, 8, none⟩ = some (.bool p.mf) ∧ W.cell? ⟨w.heap.size, 2, none⟩ = some (.int .i64 p.off) ∧ W.cell? ⟨w.heap.size, 10, none⟩ = some (.slice A n c) ∧ W.cell? ⟨w.heap.size + 1, 2, none⟩ = some (.int .i64 q.off) from fun W hW => ⟨(k1.to hW).cell 8 _ rfl, (k1.to hW).cell 2 _ rfl, (k1.to hW).cell 10 _ rfl, (k2.to hW).cell 2 _ rfl⟩)
  have hwr : IntKind.i64.wrap (p.off + (n : Int)) = p.off + n := by rw [IntKind.wrap_i64]; omega
  have hdef := Lib.hid (show follows4 p q = (p.mf && ((p.src == q.src) && ((p.dst == q.dst) && ((p.pr == q.pr) && ((p.id == q.id) && (q.off == p.off + n)))))) by unfold follows4; rw [hpn])
  clear hpn k1 k2
  cases hm : p.mf
  · have he := Lib.hid (show follows4 p q = false by rw [hdef.out, hm]; rfl)
    replace hdef := 0
    rw [hm] at hC1
    go_enter Try.func62, Try.ntmps62
    go_wp2
    try rw [hw0]
    refine wp_region_tame (fun W => Below w0.heap.size w0 W) (by kernel_rfl) (by kernel_rfl) (Below.refl _ _).drew ?_
    repeat (first
      | (refine tameL_skip rfl ?_; simp only [Act.put, List.setIfInBounds_toArray, List.set_cons_zero, List.set_cons_succ])
      | (refine tameL_row rfl 24 (.tmp 2) rfl w.heap.size rfl _ (cells4 p Ao no co A n c) _ _ (fun W hS => hA.out W hS) Try.underlying24 rfl hV.out ?_; simp only [Act.put, List.setIfInBounds_toArray, List.set_cons_zero, List.set_cons_succ])
      | (refine tameL_row rfl 24 (.tmp 3) rfl (w.heap.size + 1) rfl _ (cells4 q Ao' no' co' A' n' c') _ _ (fun W hS => hA'.out W hS) Try.underlying24 rfl hV'.out ?_; simp only [Act.put, List.setIfInBounds_toArray, List.set_cons_zero, List.set_cons_succ])
      | (refine tameL_call1 (v := .agg #[.int .i64 p.src, .int .i64 p.dst, .int .i64 p.pr, .int .i64 p.id]) rfl 106 (.tmp 8) _ rfl en_Cut4KindOf rfl ?_ ?_; exact fun W hS => (KindOf_any p Ao no co A n c W).mono fun e W' ⟨he, hb⟩ => ⟨he, hK.out W W' hS hb⟩; simp only [Act.put, List.setIfInBounds_toArray, List.set_cons_zero, List.set_cons_succ])
      | (refine tameL_call1 (v := .agg #[.int .i64 q.src, .int .i64 q.dst, .int .i64 q.pr, .int .i64 q.id]) rfl 106 (.tmp 10) _ rfl en_Cut4KindOf rfl ?_ ?_; exact fun W hS => (KindOf_any q Ao' no' co' A' n' c' W).mono fun e W' ⟨he, hb⟩ => ⟨he, hK.out W W' hS hb⟩; simp only [Act.put, List.setIfInBounds_toArray, List.set_cons_zero, List.set_cons_succ])
      | (refine tameL_val (v := ?_) rfl (fun W hS => ?_) ?_; rotate_left; (· (obtain ⟨g0, g1, g2, g3⟩ := hC1.out W hS; clear hS; go_simp; try with_reducible rfl)); simp only [Act.put, List.setIfInBounds_toArray, List.set_cons_zero, List.set_cons_succ]))
    refine tameL_nil fun W hS => ?_
    go_wp2
    go_ret
    exact ⟨by first | (rw [he.out]; rfl) | (rw [he.out]; simp) , hb.out.trans (hS.mono hb.out.size)⟩
  rw [hm] at hC1
  by_cases s1 : p.src = q.src
  · by_cases s2 : p.dst = q.dst
    · by_cases s3 : p.pr = q.pr
      · by_cases s4 : p.id = q.id
        · have he := Lib.hid (show follows4 p q = (q.off == p.off + n) by rw [hdef.out, hm, s1, s2, s3, s4]; simp)
          have t1 : (p.src == q.src) = true := by simp [s1]
          have t2 : (p.dst == q.dst) = true := by simp [s2]
          have t3 : (p.pr == q.pr) = true := by simp [s3]
          have t4 : (p.id == q.id) = true := by simp [s4]
          replace hdef := 0
          clear s1 s2 s3 s4
          go_enter Try.func62, Try.ntmps62
          go_wp2
          try rw [hw0]
          refine wp_region_tame (fun W => Below w0.heap.size w0 W) (by kernel_rfl) (by kernel_rfl) (Below.refl _ _).drew ?_
          repeat (first
            | (refine tameL_skip rfl ?_; simp only [Act.put, List.setIfInBounds_toArray, List.set_cons_zero, List.set_cons_succ])
            | (refine tameL_row rfl 24 (.tmp 2) rfl w.heap.size rfl _ (cells4 p Ao no co A n c) _ _ (fun W hS => hA.out W hS) Try.underlying24 rfl hV.out ?_; simp only [Act.put, List.setIfInBounds_toArray, List.set_cons_zero, List.set_cons_succ])
            | (refine tameL_row rfl 24 (.tmp 3) rfl (w.heap.size + 1) rfl _ (cells4 q Ao' no' co' A' n' c') _ _ (fun W hS => hA'.out W hS) Try.underlying24 rfl hV'.out ?_; simp only [Act.put, List.setIfInBounds_toArray, List.set_cons_zero, List.set_cons_succ])
            | (refine tameL_call1 (v := .agg #[.int .i64 p.src, .int .i64 p.dst, .int .i64 p.pr, .int .i64 p.id]) rfl 106 (.tmp 8) _ rfl en_Cut4KindOf rfl ?_ ?_; exact fun W hS => (KindOf_any p Ao no co A n c W).mono fun e W' ⟨he, hb⟩ => ⟨he, hK.out W W' hS hb⟩; simp only [Act.put, List.setIfInBounds_toArray, List.set_cons_zero, List.set_cons_succ])
            | (refine tameL_call1 (v := .agg #[.int .i64 q.src, .int .i64 q.dst, .int .i64 q.pr, .int .i64 q.id]) rfl 106 (.tmp 10) _ rfl en_Cut4KindOf rfl ?_ ?_; exact fun W hS => (KindOf_any q Ao' no' co' A' n' c' W).mono fun e W' ⟨he, hb⟩ => ⟨he, hK.out W W' hS hb⟩; simp only [Act.put, List.setIfInBounds_toArray, List.set_cons_zero, List.set_cons_succ])
            | (refine tameL_val (v := ?_) rfl (fun W hS => ?_) ?_; rotate_left; (· (obtain ⟨g0, g1, g2, g3⟩ := hC1.out W hS; clear hS; go_simp; try with_reducible rfl)); simp only [Act.put, List.setIfInBounds_toArray, List.set_cons_zero, List.set_cons_succ]))
          refine tameL_nil fun W hS => ?_
          go_wp2
          go_ret
          exact ⟨by first | (rw [he.out]; rfl) | (rw [he.out]; simp) , hb.out.trans (hS.mono hb.out.size)⟩
        · have he := Lib.hid (show follows4 p q = false by rw [hdef.out, hm]; simp [s4])
          have t1 : (p.src == q.src) = true := by simp [s1]
          have t2 : (p.dst == q.dst) = true := by simp [s2]
          have t3 : (p.pr == q.pr) = true := by simp [s3]
          have t4 : (p.id == q.id) = false := by simp [s4]
          replace hdef := 0
          clear s1 s2 s3 s4
          go_enter Try.func62, Try.ntmps62
          go_wp2
          try rw [hw0]
          refine wp_region_tame (fun W => Below w0.heap.size w0 W) (by kernel_rfl) (by kernel_rfl) (Below.refl _ _).drew ?_
          repeat (first
            | (refine tameL_skip rfl ?_; simp only [Act.put, List.setIfInBounds_toArray, List.set_cons_zero, List.set_cons_succ])
            | (refine tameL_row rfl 24 (.tmp 2) rfl w.heap.size rfl _ (cells4 p Ao no co A n c) _ _ (fun W hS => hA.out W hS) Try.underlying24 rfl hV.out ?_; simp only [Act.put, List.setIfInBounds_toArray, List.set_cons_zero, List.set_cons_succ])
            | (refine tameL_row rfl 24 (.tmp 3) rfl (w.heap.size + 1) rfl _ (cells4 q Ao' no' co' A' n' c') _ _ (fun W hS => hA'.out W hS) Try.underlying24 rfl hV'.out ?_; simp only [Act.put, List.setIfInBounds_toArray, List.set_cons_zero, List.set_cons_succ])
            | (refine tameL_call1 (v := .agg #[.int .i64 p.src, .int .i64 p.dst, .int .i64 p.pr, .int .i64 p.id]) rfl 106 (.tmp 8) _ rfl en_Cut4KindOf rfl ?_ ?_; exact fun W hS => (KindOf_any p Ao no co A n c W).mono fun e W' ⟨he, hb⟩ => ⟨he, hK.out W W' hS hb⟩; simp only [Act.put, List.setIfInBounds_toArray, List.set_cons_zero, List.set_cons_succ])
            | (refine tameL_call1 (v := .agg #[.int .i64 q.src, .int .i64 q.dst, .int .i64 q.pr, .int .i64 q.id]) rfl 106 (.tmp 10) _ rfl en_Cut4KindOf rfl ?_ ?_; exact fun W hS => (KindOf_any q Ao' no' co' A' n' c' W).mono fun e W' ⟨he, hb⟩ => ⟨he, hK.out W W' hS hb⟩; simp only [Act.put, List.setIfInBounds_toArray, List.set_cons_zero, List.set_cons_succ])
            | (refine tameL_val (v := ?_) rfl (fun W hS => ?_) ?_; rotate_left; (· (obtain ⟨g0, g1, g2, g3⟩ := hC1.out W hS; clear hS; go_simp; try with_reducible rfl)); simp only [Act.put, List.setIfInBounds_toArray, List.set_cons_zero, List.set_cons_succ]))
          refine tameL_nil fun W hS => ?_
          go_wp2
          go_ret
          exact ⟨by first | (rw [he.out]; rfl) | (rw [he.out]; simp) , hb.out.trans (hS.mono hb.out.size)⟩
      · have he := Lib.hid (show follows4 p q = false by rw [hdef.out, hm]; simp [s3])
        have t1 : (p.src == q.src) = true := by simp [s1]
        have t2 : (p.dst == q.dst) = true := by simp [s2]
        have t3 : (p.pr == q.pr) = false := by simp [s3]
        replace hdef := 0
        clear s1 s2 s3
        go_enter Try.func62, Try.ntmps62
        go_wp2
        try rw [hw0]
        refine wp_region_tame (fun W => Below w0.heap.size w0 W) (by kernel_rfl) (by kernel_rfl) (Below.refl _ _).drew ?_
        repeat (first
          | (refine tameL_skip rfl ?_; simp only [Act.put, List.setIfInBounds_toArray, List.set_cons_zero, List.set_cons_succ])
          | (refine tameL_row rfl 24 (.tmp 2) rfl w.heap.size rfl _ (cells4 p Ao no co A n c) _ _ (fun W hS => hA.out W hS) Try.underlying24 rfl hV.out ?_; simp only [Act.put, List.setIfInBounds_toArray, List.set_cons_zero, List.set_cons_succ])
          | (refine tameL_row rfl 24 (.tmp 3) rfl (w.heap.size + 1) rfl _ (cells4 q Ao' no' co' A' n' c') _ _ (fun W hS => hA'.out W hS) Try.underlying24 rfl hV'.out ?_; simp only [Act.put, List.setIfInBounds_toArray, List.set_cons_zero, List.set_cons_succ])
          | (refine tameL_call1 (v := .agg #[.int .i64 p.src, .int .i64 p.dst, .int .i64 p.pr, .int .i64 p.id]) rfl 106 (.tmp 8) _ rfl en_Cut4KindOf rfl ?_ ?_; exact fun W hS => (KindOf_any p Ao no co A n c W).mono fun e W' ⟨he, hb⟩ => ⟨he, hK.out W W' hS hb⟩; simp only [Act.put, List.setIfInBounds_toArray, List.set_cons_zero, List.set_cons_succ])
          | (refine tameL_call1 (v := .agg #[.int .i64 q.src, .int .i64 q.dst, .int .i64 q.pr, .int .i64 q.id]) rfl 106 (.tmp 10) _ rfl en_Cut4KindOf rfl ?_ ?_; exact fun W hS => (KindOf_any q Ao' no' co' A' n' c' W).mono fun e W' ⟨he, hb⟩ => ⟨he, hK.out W W' hS hb⟩; simp only [Act.put, List.setIfInBounds_toArray, List.set_cons_zero, List.set_cons_succ])
          | (refine tameL_val (v := ?_) rfl (fun W hS => ?_) ?_; rotate_left; (· (obtain ⟨g0, g1, g2, g3⟩ := hC1.out W hS; clear hS; go_simp; try with_reducible rfl)); simp only [Act.put, List.setIfInBounds_toArray, List.set_cons_zero, List.set_cons_succ]))
        refine tameL_nil fun W hS => ?_
        go_wp2
        go_ret
        exact ⟨by first | (rw [he.out]; rfl) | (rw [he.out]; simp) , hb.out.trans (hS.mono hb.out.size)⟩
    · have he := Lib.hid (show follows4 p q = false by rw [hdef.out, hm]; simp [s2])
      have t1 : (p.src == q.src) = true := by simp [s1]
      have t2 : (p.dst == q.dst) = false := by simp [s2]
      replace hdef := 0
      clear s1 s2
      go_enter Try.func62, Try.ntmps62
      go_wp2
      try rw [hw0]
      refine wp_region_tame (fun W => Below w0.heap.size w0 W) (by kernel_rfl) (by kernel_rfl) (Below.refl _ _).drew ?_
      repeat (first
        | (refine tameL_skip rfl ?_; simp only [Act.put, List.setIfInBounds_toArray, List.set_cons_zero, List.set_cons_succ])
        | (refine tameL_row rfl 24 (.tmp 2) rfl w.heap.size rfl _ (cells4 p Ao no co A n c) _ _ (fun W hS => hA.out W hS) Try.underlying24 rfl hV.out ?_; simp only [Act.put, List.setIfInBounds_toArray, List.set_cons_zero, List.set_cons_succ])
        | (refine tameL_row rfl 24 (.tmp 3) rfl (w.heap.size + 1) rfl _ (cells4 q Ao' no' co' A' n' c') _ _ (fun W hS => hA'.out W hS) Try.underlying24 rfl hV'.out ?_; simp only [Act.put, List.setIfInBounds_toArray, List.set_cons_zero, List.set_cons_succ])
        | (refine tameL_call1 (v := .agg #[.int .i64 p.src, .int .i64 p.dst, .int .i64 p.pr, .int .i64 p.id]) rfl 106 (.tmp 8) _ rfl en_Cut4KindOf rfl ?_ ?_; exact fun W hS => (KindOf_any p Ao no co A n c W).mono fun e W' ⟨he, hb⟩ => ⟨he, hK.out W W' hS hb⟩; simp only [Act.put, List.setIfInBounds_toArray, List.set_cons_zero, List.set_cons_succ])
        | (refine tameL_call1 (v := .agg #[.int .i64 q.src, .int .i64 q.dst, .int .i64 q.pr, .int .i64 q.id]) rfl 106 (.tmp 10) _ rfl en_Cut4KindOf rfl ?_ ?_; exact fun W hS => (KindOf_any q Ao' no' co' A' n' c' W).mono fun e W' ⟨he, hb⟩ => ⟨he, hK.out W W' hS hb⟩; simp only [Act.put, List.setIfInBounds_toArray, List.set_cons_zero, List.set_cons_succ])
        | (refine tameL_val (v := ?_) rfl (fun W hS => ?_) ?_; rotate_left; (· (obtain ⟨g0, g1, g2, g3⟩ := hC1.out W hS; clear hS; go_simp; try with_reducible rfl)); simp only [Act.put, List.setIfInBounds_toArray, List.set_cons_zero, List.set_cons_succ]))
      refine tameL_nil fun W hS => ?_
      go_wp2
      go_ret
      exact ⟨by first | (rw [he.out]; rfl) | (rw [he.out]; simp) , hb.out.trans (hS.mono hb.out.size)⟩
  · have he := Lib.hid (show follows4 p q = false by rw [hdef.out, hm]; simp [s1])
    have t1 : (p.src == q.src) = false := by simp [s1]
    replace hdef := 0
    clear s1
    go_enter Try.func62, Try.ntmps62
    go_wp2
    try rw [hw0]
    refine wp_region_tame (fun W => Below w0.heap.size w0 W) (by kernel_rfl) (by kernel_rfl) (Below.refl _ _).drew ?_
    repeat (first
      | (refine tameL_skip rfl ?_; simp only [Act.put, List.setIfInBounds_toArray, List.set_cons_zero, List.set_cons_succ])
      | (refine tameL_row rfl 24 (.tmp 2) rfl w.heap.size rfl _ (cells4 p Ao no co A n c) _ _ (fun W hS => hA.out W hS) Try.underlying24 rfl hV.out ?_; simp only [Act.put, List.setIfInBounds_toArray, List.set_cons_zero, List.set_cons_succ])
      | (refine tameL_row rfl 24 (.tmp 3) rfl (w.heap.size + 1) rfl _ (cells4 q Ao' no' co' A' n' c') _ _ (fun W hS => hA'.out W hS) Try.underlying24 rfl hV'.out ?_; simp only [Act.put, List.setIfInBounds_toArray, List.set_cons_zero, List.set_cons_succ])
      | (refine tameL_call1 (v := .agg #[.int .i64 p.src, .int .i64 p.dst, .int .i64 p.pr, .int .i64 p.id]) rfl 106 (.tmp 8) _ rfl en_Cut4KindOf rfl ?_ ?_; exact fun W hS => (KindOf_any p Ao no co A n c W).mono fun e W' ⟨he, hb⟩ => ⟨he, hK.out W W' hS hb⟩; simp only [Act.put, List.setIfInBounds_toArray, List.set_cons_zero, List.set_cons_succ])
      | (refine tameL_call1 (v := .agg #[.int .i64 q.src, .int .i64 q.dst, .int .i64 q.pr, .int .i64 q.id]) rfl 106 (.tmp 10) _ rfl en_Cut4KindOf rfl ?_ ?_; exact fun W hS => (KindOf_any q Ao' no' co' A' n' c' W).mono fun e W' ⟨he, hb⟩ => ⟨he, hK.out W W' hS hb⟩; simp only [Act.put, List.setIfInBounds_toArray, List.set_cons_zero, List.set_cons_succ])
      | (refine tameL_val (v := ?_) rfl (fun W hS => ?_) ?_; rotate_left; (· (obtain ⟨g0, g1, g2, g3⟩ := hC1.out W hS; clear hS; go_simp; try with_reducible rfl)); simp only [Act.put, List.setIfInBounds_toArray, List.set_cons_zero, List.set_cons_succ]))
    refine tameL_nil fun W hS => ?_
    go_wp2
    go_ret
    exact ⟨by first | (rw [he.out]; rfl) | (rw [he.out]; simp) , hb.out.trans (hS.mono hb.out.size)⟩
end Go.Proofs.Ytipigcpenmcaoaa
/- Fragments of IPv4 (cut4): what they are together. No program in sight. -/
set_option linter.unusedVariables false
namespace Go.Proofs.Ytipigcpenmcaoaa
open Go Go.RowKit

def chk4 (p : V4P) : Int := checkV4 p p.opts.length p.data.length
def firstBad : List V4P → Int
  | [] => 0
  | p :: l => if chk4 p ≠ 0 then chk4 p else firstBad l
theorem firstBad_append : ∀ (a b : List V4P), firstBad a = 0 → firstBad (a ++ b) = firstBad b
  | [], _, _ => rfl
  | p :: a, b, h => by
    unfold firstBad at h
    split at h
    · exact absurd h (by assumption)
    · rename_i hp
      show firstBad (p :: (a ++ b)) = _
      rw [firstBad, if_neg hp]
      exact firstBad_append a b h
theorem firstBad_take {l : List V4P} {i : Nat} {x : V4P} (hx : l[i]? = some x) (h : firstBad (l.take i) = 0) : firstBad (l.take (i + 1)) = chk4 x ∧ (chk4 x ≠ 0 → firstBad l = chk4 x) := by
  have h1 : firstBad [x] = chk4 x := by
    unfold firstBad; split
    · rfl
    · rename_i hp; unfold firstBad; omega
  refine ⟨by rw [List.take_add_one, hx, firstBad_append _ _ h]; exact h1, fun hc => ?_⟩
  have hl : l = l.take i ++ (x :: l.drop (i + 1)) := by
    have h2 : l.drop i = x :: l.drop (i + 1) := by
      obtain ⟨hlt, he⟩ := List.getElem?_eq_some_iff.1 hx
      rw [List.drop_eq_getElem_cons hlt, he]
    rw [← h2, List.take_append_drop]
  rw [hl, firstBad_append _ _ h, firstBad, if_pos hc]
theorem firstBad_all {l : List V4P} (h : firstBad l = 0) : ∀ x ∈ l, chk4 x = 0 := by
  induction l with
  | nil => intro x hx; cases hx
  | cons p l ih =>
    unfold firstBad at h
    split at h
    · exact absurd h (by assumption)
    · rename_i hp
      intro x hx
      rcases List.mem_cons.1 hx with rfl | hx
      · omega
      · exact ih h x hx
theorem firstBad_zero {l : List V4P} (h : ∀ x ∈ l, chk4 x = 0) : firstBad l = 0 := by
  induction l with
  | nil => rfl
  | cons p l ih =>
    unfold firstBad
    rw [if_neg (by rw [h p (List.mem_cons_self ..)]; decide)]
    exact ih fun x hx => h x (List.mem_cons_of_mem _ hx)
def folAt (l : List V4P) (j : Nat) : Bool := match l[j]?, l[j + 1]? with
  | some a, some b => follows4 a b
  | _, _ => true
def chain4 (l : List V4P) : Bool := (List.range l.length).all (folAt l)
theorem folAt_at {l : List V4P} {j : Nat} {a b : V4P} (ha : l[j]? = some a) (hb : l[j + 1]? = some b) : folAt l j = follows4 a b := by unfold folAt; rw [ha, hb]
theorem chain4_false {l : List V4P} {j : Nat} {a b : V4P} (ha : l[j]? = some a) (hb : l[j + 1]? = some b) (h : follows4 a b = false) : chain4 l = false := by
  unfold chain4
  rw [List.all_eq_false]
  refine ⟨j, List.mem_range.2 (List.getElem?_eq_some_iff.1 ha).1, ?_⟩
  rw [folAt_at ha hb, h]; decide
theorem chain4_true {l : List V4P} (h : ∀ j, j + 1 < l.length → folAt l j = true) : chain4 l = true := by
  unfold chain4
  rw [List.all_eq_true]
  intro j hj
  by_cases h1 : j + 1 < l.length
  · exact h j h1
  · unfold folAt
    rw [show l[j + 1]? = none from List.getElem?_eq_none (by omega)]
    split <;> simp_all
def whole4 (l : List V4P) : V4P := { l.head?.getD zero4 with mf := (l[l.length - 1]?.map (·.mf)).getD false, data := l.flatMap (·.data) }
def glueK (l : List V4P) : Int := if l.length = 0 then 1 else if firstBad l ≠ 0 then firstBad l else if chain4 l = false then 4 else chk4 (whole4 l)
def glueV (l : List V4P) : V4P := if glueK l = 0 then whole4 l else zero4
def GlueOut (w : World) (l : List V4P) (e : Ending) (w' : World) : Prop :=
  ∃ Ao no co A n c, e = .returned (.tuple #[.agg (cells4 (glueV l) Ao no co A n c), .int .i64 (glueK l)]) ∧ RB w' Ao no co (glueV l).opts ∧ RB w' A n c (glueV l).data ∧ Below w.heap.size w w'
theorem GlueOut.bad {w w' : World} {l : List V4P} {k : Int} (hk : glueK l = k) (h0 : k ≠ 0) (hb : Below w.heap.size w w') : GlueOut w l (.returned (.tuple #[.agg zero4c, .int .i64 k])) w' := by
  have hv : glueV l = zero4 := by unfold glueV; rw [if_neg (by rw [hk]; exact h0)]
  exact ⟨none, 0, 0, none, 0, 0, by rw [hk, hv]; rfl, by rw [hv]; exact RB.nil _, by rw [hv]; exact RB.nil _, hb⟩
theorem GlueOut.good {w w' : World} {l : List V4P} {Ao : Option Addr} {no co : Nat} {A : Option Addr} {n c : Nat} (hk : glueK l = 0) (ho : RB w' Ao no co (whole4 l).opts) (hd : RB w' A n c (whole4 l).data) (hb : Below w.heap.size w w') : GlueOut w l (.returned (.tuple #[.agg (cells4 (whole4 l) Ao no co A n c), .int .i64 0])) w' := by
  have hv : glueV l = whole4 l := by unfold glueV; rw [if_pos hk]
  exact ⟨Ao, no, co, A, n, c, by rw [hk, hv], by rw [hv]; exact ho, by rw [hv]; exact hd, hb⟩
/-- The data of the first so many. -/
def cat4 (l : List V4P) (k : Nat) : List Int := (l.take k).flatMap (·.data)
theorem cat4_next {l : List V4P} {k : Nat} {x : V4P} (hx : l[k]? = some x) : cat4 l (k + 1) = cat4 l k ++ x.data := by
  unfold cat4; rw [List.take_add_one, hx]; simp
theorem cat4_le (l : List V4P) (k : Nat) : (cat4 l k).length ≤ (l.flatMap (·.data)).length := by
  unfold cat4
  conv => rhs; rw [← List.take_append_drop k l, List.flatMap_append, List.length_append]
  omega
theorem cat4_all (l : List V4P) : cat4 l l.length = l.flatMap (·.data) := by unfold cat4; rw [List.take_length]
end Go.Proofs.Ytipigcpenmcaoaa
/- Fragments of IPv4 (the reference): fits. -/
set_option linter.unusedVariables false
namespace Go.Proofs.Ytipigcpenmcaoaa
open Go Go.RowKit

theorem keys_chain {l : List V4P} {p0 : V4P} (h0 : l[0]? = some p0) : ∀ (k : Nat) (x : V4P), (∀ j, j < k → folAt l j = true) → l[k]? = some x → p0.src = x.src ∧ p0.dst = x.dst ∧ p0.pr = x.pr ∧ p0.id = x.id
  | 0, x, _, hx => by rw [h0] at hx; cases hx; exact ⟨rfl, rfl, rfl, rfl⟩
  | k + 1, x, h, hx => by
    have hlt := (List.getElem?_eq_some_iff.1 hx).1
    have hy : l[k]? = some (l[k]'(by omega)) := List.getElem?_eq_getElem _
    obtain ⟨e1, e2, e3, e4⟩ := keys_chain h0 k _ (fun j hj => h j (by omega)) hy
    have hf := h k (by omega)
    rw [folAt_at hy hx] at hf
    unfold follows4 at hf
    simp only [Bool.and_eq_true, beq_iff_eq] at hf
    obtain ⟨_, f1, f2, f3, f4, _⟩ := hf
    exact ⟨e1.trans f1, e2.trans f2, e3.trans f3, e4.trans f4⟩
set_option maxRecDepth 100000 in
set_option maxHeartbeats 2000000 in
theorem RefFits4_any (f p q : V4P) (Af : Option Addr) (nf cf : Nat) (Bf : Option Addr) (mf kf : Nat) (Ao : Option Addr) (no co : Nat) (A : Option Addr) (n c : Nat) (Ao' : Option Addr) (no' co' : Nat) (A' : Option Addr) (n' c' : Nat) (w : World) (hpn : p.data.length = n) (h0 : 0 ≤ p.off) (h1 : p.off ≤ 65535) (hn : n ≤ 100000)
    (k1 : f.src = p.src) (k2 : f.dst = p.dst) (k3 : f.pr = p.pr) (k4 : f.id = p.id) :
    Calls Try.prog 63 #[.agg (cells4 f Af nf cf Bf mf kf), .agg (cells4 p Ao no co A n c), .agg (cells4 q Ao' no' co' A' n' c')] w fun e w' => e = .returned (.bool (follows4 p q)) ∧ Below w.heap.size w w' := by
  have hb := Lib.hid (show Below w.heap.size w (((w.alloc (.cells (cells4 f Af nf cf Bf mf kf) 24)).alloc (.cells (cells4 p Ao no co A n c) 24)).alloc (.cells (cells4 q Ao' no' co' A' n' c') 24)) from (((Below.refl _ w).alloc (Nat.le_refl _) _).alloc (by simp) _).alloc (by simp; omega) _)
  have hwr : IntKind.i64.wrap (p.off + (n : Int)) = p.off + n := by rw [IntKind.wrap_i64]; omega
  have hdef := Lib.hid (show follows4 p q = (p.mf && ((p.src == q.src) && ((p.dst == q.dst) && ((p.pr == q.pr) && ((p.id == q.id) && (q.off == p.off + n)))))) by unfold follows4; rw [hpn])
  clear hpn
  have hk1 := Lib.hid k1
  have hk2 := Lib.hid k2
  have hk3 := Lib.hid k3
  have hk4 := Lib.hid k4
  clear k1 k2 k3 k4
  go_enter Try.func63, Try.ntmps63
  go_upto_region 1 with fail
  by_cases s1 : q.src = f.src
  · by_cases s2 : q.dst = f.dst
    · by_cases s3 : q.pr = f.pr
      · by_cases s4 : q.id = f.id
        · have t1 : (q.src == f.src) = true := by simp [s1]
          have t2 : (q.dst == f.dst) = true := by simp [s2]
          have t3 : (q.pr == f.pr) = true := by simp [s3]
          have t4 : (q.id == f.id) = true := by simp [s4]
          have hde := Lib.hid (show follows4 p q = (p.mf && (q.off == p.off + n)) by rw [hdef.out, s1, s2, s3, s4, hk1.out, hk2.out, hk3.out, hk4.out]; simp)
          clear s1 s2 s3 s4
          cases hm : p.mf
          · have he := Lib.hid (show follows4 p q = false by rw [hde.out, hm]; rfl)
            go_wp2
            go_ret
            exact ⟨by first | (rw [he.out]; rfl) | (rw [he.out]; simp) , hb.out⟩
          · have he := Lib.hid (show follows4 p q = (q.off == p.off + n) by rw [hde.out, hm]; rfl)
            go_wp2
            go_ret
            exact ⟨by first | (rw [he.out]; rfl) | (rw [he.out]; simp) , hb.out⟩
        · have he := Lib.hid (show follows4 p q = false by rw [hdef.out, ← hk4.out]; simp [Ne.symm s4])
          have t1 : (q.src == f.src) = true := by simp [s1]
          have t2 : (q.dst == f.dst) = true := by simp [s2]
          have t3 : (q.pr == f.pr) = true := by simp [s3]
          have t4 : (q.id == f.id) = false := by simp [s4]
          clear s1 s2 s3 s4
          go_wp2
          go_ret
          exact ⟨by first | (rw [he.out]; rfl) | (rw [he.out]; simp) , hb.out⟩
      · have he := Lib.hid (show follows4 p q = false by rw [hdef.out, ← hk3.out]; simp [Ne.symm s3])
        have t1 : (q.src == f.src) = true := by simp [s1]
        have t2 : (q.dst == f.dst) = true := by simp [s2]
        have t3 : (q.pr == f.pr) = false := by simp [s3]
        clear s1 s2 s3
        go_wp2
        go_ret
        exact ⟨by first | (rw [he.out]; rfl) | (rw [he.out]; simp) , hb.out⟩
    · have he := Lib.hid (show follows4 p q = false by rw [hdef.out, ← hk2.out]; simp [Ne.symm s2])
      have t1 : (q.src == f.src) = true := by simp [s1]
      have t2 : (q.dst == f.dst) = false := by simp [s2]
      clear s1 s2
      go_wp2
      go_ret
      exact ⟨by first | (rw [he.out]; rfl) | (rw [he.out]; simp) , hb.out⟩
  · have he := Lib.hid (show follows4 p q = false by rw [hdef.out, ← hk1.out]; simp [Ne.symm s1])
    have t1 : (q.src == f.src) = false := by simp [s1]
    clear s1
    go_wp2
    go_ret
    exact ⟨by first | (rw [he.out]; rfl) | (rw [he.out]; simp) , hb.out⟩
end Go.Proofs.Ytipigcpenmcaoaa
