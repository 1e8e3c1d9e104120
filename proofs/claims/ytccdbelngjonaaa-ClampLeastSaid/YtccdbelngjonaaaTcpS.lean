/- Segments (tcp, and the reference): walks of Same. -/
import Derived.Test.YtccdbelngjonaaaTcp
import Derived.Test.YtccdbelngjonaaaEqArr
set_option linter.unusedVariables false
namespace Go.Proofs.Ytccdbelngjonaaa
open Go.RowKit

/-- Whether the numbers of two segments are the same. -/
def oneT (p q : TcpP) : Bool := p.s == q.s && p.d == q.d && p.q == q.q && p.a == q.a && p.r == q.r && p.f == q.f && p.w == q.w && p.u == q.u
def sameT (p q : TcpP) : Bool := oneT p q && p.opts == q.opts && p.data == q.data
abbrev eightT (p : TcpP) : List Int := [p.s, p.d, p.q, p.a, p.r, p.f, p.w, p.u]
theorem eight_beq (p q : TcpP) : (eightT p == eightT q) = oneT p q := by simp [oneT, Bool.and_assoc]
theorem sameT_refl (p : TcpP) : sameT p p = true := by simp [sameT, oneT]

set_option maxRecDepth 100000 in
set_option maxHeartbeats 4000000 in
theorem TcpSame_any (p q : TcpP) (Ao : Option Addr) (no co : Nat) (A : Option Addr) (n c : Nat) (Bo : Option Addr) (mo do_ : Nat) (B : Option Addr) (k d : Nat) (w : World) (hro : RB w Ao no co p.opts) (hrd : RB w A n c p.data) (hqo : RB w Bo mo do_ q.opts) (hqd : RB w B k d q.data) :
    Calls Try.prog 51 #[.agg (cellsT p Ao no co A n c), .agg (cellsT q Bo mo do_ B k d)] w fun e w' => e = .returned (.bool (sameT p q)) ∧ Below w.heap.size w w' := by
  have hb := Lib.hid (((Below.refl _ w).alloc (Nat.le_refl _) (.cells (cellsT p Ao no co A n c) 73)).alloc (by simp) (.cells (cellsT q Bo mo do_ B k d) 73))
  have hro0 := Lib.hid hro
  have hrd0 := Lib.hid hrd
  have hqo0 := Lib.hid hqo
  have hqd0 := Lib.hid hqd
  replace hro := Lib.hid ((hro.alloc (.cells (cellsT p Ao no co A n c) 73)).alloc (.cells (cellsT q Bo mo do_ B k d) 73))
  replace hrd := Lib.hid ((hrd.alloc (.cells (cellsT p Ao no co A n c) 73)).alloc (.cells (cellsT q Bo mo do_ B k d) 73))
  replace hqo := Lib.hid ((hqo.alloc (.cells (cellsT p Ao no co A n c) 73)).alloc (.cells (cellsT q Bo mo do_ B k d) 73))
  replace hqd := Lib.hid ((hqd.alloc (.cells (cellsT p Ao no co A n c) 73)).alloc (.cells (cellsT q Bo mo do_ B k d) 73))
  have heq : ∀ W : World, Sem.run Try.prog (Op.equalIn 10000 120 (Value.agg #[.int .i64 p.s, .int .i64 p.d, .int .i64 p.q, .int .i64 p.a, .int .i64 p.r, .int .i64 p.f, .int .i64 p.w, .int .i64 p.u]) (Value.agg #[.int .i64 q.s, .int .i64 q.d, .int .i64 q.q, .int .i64 q.a, .int .i64 q.r, .int .i64 q.f, .int .i64 q.w, .int .i64 q.u])) W = .ok (oneT p q) W := fun W => by
    have := equalIn_ints W 9998 120 8 Try.underlying120 (eightT p) (eightT q) rfl rfl
    rw [eight_beq] at this; exact this
  have hsm := show sameT p q = (oneT p q && p.opts == q.opts && p.data == q.data) from rfl
  cases n0 : oneT p q
  · rw [n0] at heq hsm
    replace hsm := Lib.hid hsm
    go_enter Try.func51, Try.ntmps51
    go_wp2
    go_ret
    exact ⟨ret_bool (by rw [hsm.out]; rfl), (hb.out.alloc hb.out.size _).alloc (by have := hb.out.size; simp; omega) _⟩
  · rw [n0] at heq hsm
    have hb2 := (hb.out.alloc hb.out.size (.cells #[.int .i64 p.s, .int .i64 p.d, .int .i64 p.q, .int .i64 p.a, .int .i64 p.r, .int .i64 p.f, .int .i64 p.w, .int .i64 p.u] 120)).alloc (by have := hb.out.size; simp; omega) (.cells #[.int .i64 q.s, .int .i64 q.d, .int .i64 q.q, .int .i64 q.a, .int .i64 q.r, .int .i64 q.f, .int .i64 q.w, .int .i64 q.u] 120)
    cases n1 : (p.opts == q.opts)
    all_goals
      rw [n1] at hsm
      replace hsm := Lib.hid hsm
      have hE1 := Lib.hid (fun W (hW : Below w.heap.size w W) => Equal_any _ _ _ _ _ _ _ _ W (hro0.out.below hW) (hqo0.out.below hW))
      have hE2 := Lib.hid (fun W (hW : Below w.heap.size w W) => Equal_any _ _ _ _ _ _ _ _ W (hrd0.out.below hW) (hqd0.out.below hW))
      rw [n1] at hE1
      replace hb2 := Lib.hid hb2
      go_enter Try.func51, Try.ntmps51
      go_wp2_with (first
        | (go_at_call_of 26 (Value.slice Ao no co); refine (hE1.out _ hb2.out).mono ?_; rintro e w' ⟨rfl, rfl⟩)
        | (go_at_call_of 26 (Value.slice A n c); refine (hE2.out _ hb2.out).mono ?_; rintro e w' ⟨rfl, rfl⟩)
        | fail)
      go_ret
      exact ⟨ret_bool (by rw [hsm.out]; simp), hb2.out⟩

set_option maxRecDepth 100000 in
set_option maxHeartbeats 4000000 in
theorem RefTcpSame_any (p q : TcpP) (Ao : Option Addr) (no co : Nat) (A : Option Addr) (n c : Nat) (Bo : Option Addr) (mo do_ : Nat) (B : Option Addr) (k d : Nat) (w : World) (hro : RB w Ao no co p.opts) (hrd : RB w A n c p.data) (hqo : RB w Bo mo do_ q.opts) (hqd : RB w B k d q.data) :
    Calls Try.prog 52 #[.agg (cellsT p Ao no co A n c), .agg (cellsT q Bo mo do_ B k d)] w fun e w' => e = .returned (.bool (sameT p q)) ∧ Below w.heap.size w w' := by
  have hb := Lib.hid (((Below.refl _ w).alloc (Nat.le_refl _) (.cells (cellsT p Ao no co A n c) 73)).alloc (by simp) (.cells (cellsT q Bo mo do_ B k d) 73))
  have hro0 := Lib.hid hro
  have hrd0 := Lib.hid hrd
  have hqo0 := Lib.hid hqo
  have hqd0 := Lib.hid hqd
  replace hro := Lib.hid ((hro.alloc (.cells (cellsT p Ao no co A n c) 73)).alloc (.cells (cellsT q Bo mo do_ B k d) 73))
  replace hrd := Lib.hid ((hrd.alloc (.cells (cellsT p Ao no co A n c) 73)).alloc (.cells (cellsT q Bo mo do_ B k d) 73))
  replace hqo := Lib.hid ((hqo.alloc (.cells (cellsT p Ao no co A n c) 73)).alloc (.cells (cellsT q Bo mo do_ B k d) 73))
  replace hqd := Lib.hid ((hqd.alloc (.cells (cellsT p Ao no co A n c) 73)).alloc (.cells (cellsT q Bo mo do_ B k d) 73))
  have e1 := conv_bytes hro.out
  have e2 := conv_bytes hqo.out
  have e3 := conv_bytes hrd.out
  have e4 := conv_bytes hqd.out
  have hq1 := str_beq hro.out.byt hqo.out.byt
  have hq2 := str_beq hrd.out.byt hqd.out.byt
  replace hro0 := 0
  replace hrd0 := 0
  replace hqo0 := 0
  replace hqd0 := 0
  cases n0 : (p.s == q.s)
  · skip
    go_enter Try.func52, Try.ntmps52
    go_wp2
    go_ret
    exact ⟨ret_bool (by unfold sameT oneT; rw [n0]; simp), hb.out⟩
  · skip
    cases n1 : (p.d == q.d)
    · skip
      go_enter Try.func52, Try.ntmps52
      go_wp2
      go_ret
      exact ⟨ret_bool (by unfold sameT oneT; rw [n0, n1]; simp), hb.out⟩
    · skip
      cases n2 : (p.q == q.q)
      · skip
        go_enter Try.func52, Try.ntmps52
        go_wp2
        go_ret
        exact ⟨ret_bool (by unfold sameT oneT; rw [n0, n1, n2]; simp), hb.out⟩
      · skip
        cases n3 : (p.a == q.a)
        · skip
          go_enter Try.func52, Try.ntmps52
          go_wp2
          go_ret
          exact ⟨ret_bool (by unfold sameT oneT; rw [n0, n1, n2, n3]; simp), hb.out⟩
        · skip
          cases n4 : (p.r == q.r)
          · skip
            go_enter Try.func52, Try.ntmps52
            go_wp2
            go_ret
            exact ⟨ret_bool (by unfold sameT oneT; rw [n0, n1, n2, n3, n4]; simp), hb.out⟩
          · skip
            cases n5 : (p.f == q.f)
            · skip
              go_enter Try.func52, Try.ntmps52
              go_wp2
              go_ret
              exact ⟨ret_bool (by unfold sameT oneT; rw [n0, n1, n2, n3, n4, n5]; simp), hb.out⟩
            · skip
              cases n6 : (p.w == q.w)
              · skip
                go_enter Try.func52, Try.ntmps52
                go_wp2
                go_ret
                exact ⟨ret_bool (by unfold sameT oneT; rw [n0, n1, n2, n3, n4, n5, n6]; simp), hb.out⟩
              · skip
                cases n7 : (p.u == q.u)
                · skip
                  go_enter Try.func52, Try.ntmps52
                  go_wp2
                  go_ret
                  exact ⟨ret_bool (by unfold sameT oneT; rw [n0, n1, n2, n3, n4, n5, n6, n7]; simp), hb.out⟩
                · skip
                  cases n8 : (p.opts == q.opts)
                  · skip
                    go_enter Try.func52, Try.ntmps52
                    go_wp2
                    go_ret
                    exact ⟨ret_bool (by unfold sameT oneT; rw [n0, n1, n2, n3, n4, n5, n6, n7, n8]; simp), hb.out⟩
                  · skip
                    go_enter Try.func52, Try.ntmps52
                    go_wp2
                    go_ret
                    exact ⟨ret_bool (by unfold sameT oneT; rw [n0, n1, n2, n3, n4, n5, n6, n7, n8]; simp), hb.out⟩
end Go.Proofs.Ytccdbelngjonaaa
