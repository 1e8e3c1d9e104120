/- Set (be) and Put, Set of the reference: walks. -/
import Derived.Test.YtccdbelngjonaaaRefPut
import Derived.Test.YtccdbelngjonaaaCollect
import Derived.Test.YtccdbelngjonaaaBe
set_option linter.unusedVariables false
namespace Go.Proofs.Ytccdbelngjonaaa
open Go.RowKit Go.Shelf

/-- Bytes with others in the place of some of them, one by one. -/
def setN (bs : List Int) (a : Nat) (ys : List Int) : Nat → List Int
  | 0 => bs
  | i + 1 => (setN bs a ys i).set (a + i) (ys[i]?.getD 0)
theorem setN_length (bs : List Int) (a : Nat) (ys : List Int) (i : Nat) : (setN bs a ys i).length = bs.length := by
  induction i with
  | zero => rfl
  | succ i ih => simp [setN, ih]
theorem u8s_set (bs : List Int) (j : Nat) (y : Int) : (u8s bs).set j (.int .u8 y) = u8s (bs.set j y) := by simp [u8s, List.map_set]
theorem Byts.set {bs : List Int} (h : Byts bs) (j : Nat) {y : Int} (h0 : 0 ≤ y) (h1 : y ≤ 255) : Byts (bs.set j y) := by
  intro x hx
  rcases List.mem_or_eq_of_mem_set hx with hx | rfl
  · exact h x hx
  · exact ⟨h0, h1⟩
theorem OB.set_ {w : World} {base g n c j : Nat} {bs : List Int} {y : Int} (h : OB w base (some ⟨g, 0, none⟩) n c bs) (h0 : 0 ≤ y) (h1 : y ≤ 255) : OB (w.setCell ⟨g, j, none⟩ (.int .u8 y)) base (some ⟨g, 0, none⟩) n c (bs.set j y) :=
  ⟨by rw [← u8s_set]; exact (h.own.stored j _).1, h.byt.set j h0 h1⟩
theorem OB.form {w : World} {base n c : Nat} {A : Option Addr} {bs : List Int} (h : OB w base A n c bs) (hn : 0 < n) : ∃ g, A = some ⟨g, 0, none⟩ ∧ base ≤ g ∧ g < w.heap.size ∧ ∀ j, w.frozen? ⟨g, j, none⟩ = false := by
  obtain ⟨g, cap, hv, hg, hlt⟩ := h.own.form hn
  cases hv
  exact ⟨g, rfl, hg, hlt, fun j => h.own.frozenAt j⟩

def SetPost (w : World) (n : Nat) (bs : List Int) (a x s : Int) (e : Ending) (w' : World) : Prop :=
  (¬ fitsP x s ∨ a < 0 → e = .returned (.tuple #[.slice none 0 0, .int .i64 1])) ∧
  (¬ (¬ fitsP x s ∨ a < 0) → (n : Int) < a + s → e = .returned (.tuple #[.slice none 0 0, .int .i64 3])) ∧
  (¬ (¬ fitsP x s ∨ a < 0) → ¬ (n : Int) < a + s → ∃ A2 c2, e = .returned (.tuple #[.slice A2 n c2, .int .i64 0]) ∧ OB w' w.heap.size A2 n c2 (setN bs a.toNat (digL x s.toNat) s.toNat)) ∧ Below w.heap.size w w'

set_option maxHeartbeats 1000000 in
theorem Set_nofit (A : Option Addr) (n c : Nat) (bs : List Int) (a x s : Int) (w : World) (hf : ¬ fitsP x s) :
    Calls Try.prog 82 #[.slice A n c, .int .i64 a, .int .i64 x, .int .i64 s] w fun e w' => e = .returned (.tuple #[.slice none 0 0, .int .i64 1]) ∧ w = w' := by
  have hfb := Lib.hid (fitsB_no hf)
  have hF := Lib.hid (fun w => Fits_any x s w)
  clear hf
  go_enter Try.func82, Try.ntmps82
  go_wp2_with fail
  refine (hF.out _).mono ?_
  rintro e w3 ⟨rfl, rfl⟩
  rw [hfb.out]
  go_wp2
  go_ret2
  exact ⟨rfl, rfl⟩

set_option maxHeartbeats 1000000 in
theorem Set_bad (A : Option Addr) (n c : Nat) (bs : List Int) (a x s e0 : Int) (w : World) (h : RB w A n c bs) (hn : n ≤ 100000) (hf : fitsP x s) (he0 : (e0 == 0) = false) (he1 : (e0 != 0) = true)
    (hw : ∀ A c w, Calls Try.prog 95 #[.slice A n c, .int .i64 a, .int .i64 s] w fun e w' => e = .returned (.tuple #[.slice none 0 0, .int .i64 e0]) ∧ w = w') :
    Calls Try.prog 82 #[.slice A n c, .int .i64 a, .int .i64 x, .int .i64 s] w fun e w' => e = .returned (.tuple #[.slice none 0 0, .int .i64 e0]) ∧ Below w.heap.size w w' := by
  have hfb := Lib.hid (fitsB_yes hf)
  have hx : 0 ≤ x ∧ x ≤ 4294967295 := by
    obtain ⟨⟨h1, h2⟩, h3, h4⟩ := hf
    have := pow_le s.toNat (by omega); omega
  have hF := Lib.hid (fun w => Fits_any x s w)
  have hC := Lib.hid (Clone_any A n c bs w h (by omega))
  replace hw := Lib.hid hw
  clear hf hx h
  go_enter Try.func82, Try.ntmps82
  go_wp2_with fail
  refine (hF.out _).mono ?_
  rintro e w3 ⟨rfl, rfl⟩
  rw [hfb.out]
  go_wp2_with fail
  refine hC.out.mono ?_
  rintro e w1 ⟨A2, c2, rfl, ho, hb⟩
  clear hC ho
  go_wp2_with (go_at_call 95; refine (hw.out _ _ _).mono ?_; rintro e w4 ⟨rfl, rfl⟩)
  go_ret2
  exact ⟨rfl, hb⟩

set_option maxHeartbeats 1000000 in
theorem Set_ok (A : Option Addr) (n c : Nat) (bs : List Int) (a : Nat) (x : Int) (s : Nat) (w : World) (h : RB w A n c bs) (hn : n ≤ 100000) (hf : fitsP x s) (has : a + s ≤ n) :
    Calls Try.prog 82 #[.slice A n c, .int .i64 a, .int .i64 x, .int .i64 s] w fun e w' => ∃ A2 c2, e = .returned (.tuple #[.slice A2 n c2, .int .i64 0]) ∧ OB w' w.heap.size A2 n c2 (setN bs a (digL x s) s) ∧ Below w.heap.size w w' := by
  have hfb := Lib.hid (fitsB_yes hf)
  obtain ⟨⟨hs1, hs4⟩, hx0, hx4⟩ := hf
  have hx1 : x ≤ 4294967295 := by have := pow_le s (by omega); rw [Int.toNat_natCast] at hx4; omega
  have hF := Lib.hid (fun w => Fits_any x s w)
  have hC := Lib.hid (Clone_any A n c bs w h (by omega))
  have hl := Lib.hid h.len
  clear hx4 h
  go_enter Try.func82, Try.ntmps82
  go_wp2_with fail
  refine (hF.out _).mono ?_
  rintro e w3 ⟨rfl, rfl⟩
  rw [hfb.out]
  go_wp2_with fail
  refine hC.out.mono ?_
  rintro e w1 ⟨A2, c2, rfl, ho, hb⟩
  obtain ⟨g, rfl, hg0, hg1, _⟩ := ho.form (by omega)
  have hrb := ho.rb
  have hW := window_ok g 0 n c2 a s w1 (by omega) (by omega) hn hrb.nc hrb.cm has
  rw [Nat.zero_add] at hW
  replace hW := Lib.hid hW
  clear hC hrb
  go_wp2_with fail
  refine hW.out.mono ?_
  rintro e w1' ⟨rfl, rfl⟩
  go_wp2_with fail
  refine (digits_call x s _).mono ?_
  rintro e w2 ⟨rfl, rfl⟩
  have hsz := hb.size
  have ho1 := (ho.alloc (.cells #[.int .i64 x] 3)).alloc (.cells #[.int .i64 s] 3)
  have hbn := (Boxed.new w1 3 (.int .i64 x)).alloc (.cells #[.int .i64 s] 3)
  have hbs := Boxed.new (w1.alloc (.cells #[.int .i64 x] 3)) 3 (.int .i64 s)
  rw [World.size_alloc] at hbs
  have hCo := Collect_any 109 #[.pointer (some ⟨w1.heap.size + 1, 0, none⟩), .pointer (some ⟨w1.heap.size, 0, none⟩)] (digL x s) ((w1.alloc (.cells #[.int .i64 x] 3)).alloc (.cells #[.int .i64 s] 3)) (by rw [digL_length]; omega) (digL_byts x s)
    (enters_of Try.func109 (by kernel_rfl) rfl)
    (fun W hW => digits_seq w1.heap.size (w1.heap.size + 1) x s _ W (hbn.below hW) (hbs.below hW) (by omega) hx0 (fun h => h.elim (fun e => by simp only [World.size_alloc] at e; omega) (fun e => by cases e)) (fun h => h.elim (fun e => by simp only [World.size_alloc] at e; omega) (fun e => by cases e)))
  rw [digL_length] at hCo
  replace hCo := Lib.hid hCo
  have hBs : Below w.heap.size w ((w1.alloc (.cells #[.int .i64 x] 3)).alloc (.cells #[.int .i64 s] 3)) := (hb.alloc hsz _).alloc (by simp; omega) _
  clear hbn hbs hW ho hb
  go_wp2_with fail
  refine hCo.out.mono ?_
  rintro e w4 ⟨A5, c5, rfl, ho5, hb5⟩
  have ho4 := ho1.below hb5
  have hB4 := hBs.trans (hb5.mono hBs.size)
  have hr5 := ho5.rb
  have hyl := digL_length x s
  generalize hys : digL x s = ys at *
  replace hys := Lib.hid hys
  have hg5 : ∀ b off, A5 = some ⟨b, off, none⟩ → b ≠ g := by
    rintro b off rfl rfl
    have := (ho5.blk (k := b) rfl).1
    simp at this; omega
  replace hg5 := Lib.hid hg5
  clear hCo hBs hb5 ho1 ho5 hx0 hx1
  go_wp2
  go_loopw [36] (fun i wr => ∃ k : Nat, k ≤ s ∧ i = .int .i64 k ∧ OB wr w.heap.size (some ⟨g, 0, none⟩) n c2 (setN bs a ys k) ∧ RB wr A5 s c5 ys ∧ Below w.heap.size w wr) (fun i _ => s - (intOf i).toNat)
  case atStart => exact ⟨0, by omega, rfl, ho4, hr5, hB4⟩
  case round =>
    obtain ⟨k, hk, rfl, hob, hrb, hB⟩ := hrel
    clear ho4 hr5 hB4
    by_cases hlt : k < s
    · obtain ⟨b, off, rfl, hbl, hc⟩ := hrb.mem (by omega)
      have hne := hg5.out b off rfl
      have hc0 := hc k hlt
      have hby := hrb.byt.get k
      have hor := hob.rb
      obtain ⟨b', off', e', hc'⟩ := hor.at_ (by omega)
      cases e'
      have hcg := hc' (a + k) (by omega)
      have hfg := (hob.form (by omega))
      obtain ⟨_, e', _, _, hfr⟩ := hfg
      cases e'
      have hfg := hfr (a + k)
      rw [Nat.zero_add] at hcg
      have hst : setN bs a ys (k + 1) = (setN bs a ys k).set (a + k) (ys[k]?.getD 0) := rfl
      have hrb' : ∀ v, RB (wr.setCell ⟨g, a + k, none⟩ v) (some ⟨b, off, none⟩) s c5 ys := fun v => ⟨hrb.len, hrb.nc, hrb.cm, hrb.byt, hrb.niln, fun _ => ⟨b, off, rfl, by simp [World.setCell]; exact hbl, fun j hj => by
        rw [World.cell?_setCell_other wr _ _ _ (fun e => hne (congrArg Addr.block e).symm)]; exact hc j hj⟩⟩
      replace hc := Lib.hid hc
      replace hc' := Lib.hid hc'
      replace hfr := Lib.hid hfr
      replace hrb' := Lib.hid hrb'
      replace hst := Lib.hid hst
      generalize (setN bs a ys k)[a + k]?.getD 0 = z at *
      generalize ys[k]?.getD 0 = y at *
      go_wp2
      go_roundw
      case rel => exact ⟨k + 1, by omega, by go_num, by rw [hst.out]; exact hob.set_ hby.1 hby.2, hrb'.out _, hB.setCell hg0 _⟩
      case measure => simp [intOf]; omega
    · obtain rfl : k = s := by omega
      go_wp2
      go_ret2
      rw [← hys.out] at hob
      exact ⟨_, _, rfl, hob, hB⟩
theorem setN_two2 (xs ys : List Int) (p q : Int) (zs : List Int) (a : Nat) (ha : xs.length = a) (hz : zs.length = 2) : setN (xs ++ [p, q] ++ ys) a zs 2 = xs ++ zs ++ ys := by
  match zs, hz with
  | [z0, z1], _ =>
    subst ha
    simp [setN]
end Go.Proofs.Ytccdbelngjonaaa
