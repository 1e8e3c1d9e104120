/- Captures (the reference): walk of One. -/
import Derived.Test.YtbbdkfadcafpfaaPcapBR
import Derived.Test.YtbbdkfadcafpfaaGet
set_option linter.unusedVariables false
namespace Go.Proofs.Ytbbdkfadcafpfaa
open Go Go.RowKit

theorem pgetV4_bd {bs : List Int} (h : Byts bs) (a : Int) : 0 ≤ (getV bs a 4).1 ∧ (getV bs a 4).1 < 4294967296 := by
  unfold getV
  split
  · simp
  · split
    · simp
    · have hb := cutI_byts h a.toNat (4 : Int).toNat
      have hl : (cutI bs a.toNat (4 : Int).toNat).length ≤ 4 := by unfold cutI; rw [List.length_take]; have : (4 : Int).toNat = 4 := rfl; omega
      have h1 := beNum_lo _ hb
      have h2 := beNum_hi _ hb 4 hl
      exact ⟨h1, by simpa using h2⟩
def ownV (bs : List Int) : Int := (getV bs 8 4).1
def recAt (bs : List Int) : QP := ⟨(getV bs 0 4).1, (getV bs 4 4).1, (getV bs 12 4).1, (bs.drop 16).take (ownV bs).toNat⟩
def codeO (bs : List Int) : Int := if bs.length < 16 then 3 else if (bs.length : Int) - 16 < ownV bs then 3 else if mayB (recAt bs) (ownV bs).toNat = false then 4 else 0
def oneRQ (bs : List Int) : QP := if codeO bs = 0 then recAt bs else zeroQ
def oneRN (bs : List Int) : Int := if codeO bs = 0 then 16 + ownV bs else 0
def ROneOut (w : World) (bs : List Int) (e : Ending) (w' : World) : Prop :=
  ∃ A m c, e = .returned (.tuple #[.agg (cellsQ (oneRQ bs) A m c), .int .i64 (oneRN bs), .int .i64 (codeO bs)]) ∧ OB w' w.heap.size A m c (oneRQ bs).data ∧ Below w.heap.size w w'
theorem ROneOut.bad {w w' : World} {bs : List Int} {k : Int} (hk : codeO bs = k) (h0 : k ≠ 0) (hb : Below w.heap.size w w') : ROneOut w bs (.returned (.tuple #[.agg zeroQc, .int .i64 0, .int .i64 k])) w' := by
  unfold ROneOut oneRQ oneRN
  rw [hk, if_neg h0, if_neg h0]
  exact ⟨none, 0, 0, rfl, OB.nil _ _, hb⟩
/-- Results of which the first lies in a variable, the others in slots. -/
theorem presults_ctt {P : Program} {fn : Func} {a b c : Tmp} {t : TypeId} {T : Array Value} {w : World} {g : Addr} {v : Value} (h : fn.results = #[.cell a t, .tmp b, .tmp c]) (ha : T.getD a undef = .pointer (some g)) (hl : (loadVar t g).run P w = .ok v w) :
    (results fn T).run P w = .ok (.tuple #[v, T.getD b undef, T.getD c undef]) w := by
  simp only [Array.getD_eq_getD_getElem?] at ha
  simp [results, h, ha, asAddr, hl]

set_option maxRecDepth 100000 in
set_option maxHeartbeats 1000000 in
theorem RefPOne_any (A : Option Addr) (n c : Nat) (bs : List Int) (w : World) (h : RB w A n c bs) (hn : n ≤ 100000) :
    Calls Try.prog 67 #[.slice A n c] w (ROneOut w bs) := by
  have hbz := Lib.hid ((Below.refl _ w).alloc (Nat.le_refl _) (.cells zeroQc 90))
  have kz := Lib.hid (Blk.new w zeroQc 90)
  have hlen := h.len
  have hcode : codeO bs = if n < 16 then 3 else if (n : Int) - 16 < ownV bs then 3 else if mayB (recAt bs) (ownV bs).toNat = false then 4 else 0 := by unfold codeO; rw [hlen]
  have hrec : recAt bs = ⟨(getV bs 0 4).1, (getV bs 4 4).1, (getV bs 12 4).1, (bs.drop 16).take (ownV bs).toNat⟩ := rfl
  have hG0 := fun W (hW : Below w.heap.size w W) => RefGet_any A n c bs 0 4 W (h.below hW) (by omega)
  have hG4 := fun W (hW : Below w.heap.size w W) => RefGet_any A n c bs 4 4 W (h.below hW) (by omega)
  have hG8 := fun W (hW : Below w.heap.size w W) => RefGet_any A n c bs 8 4 W (h.below hW) (by omega)
  have hG12 := fun W (hW : Below w.heap.size w W) => RefGet_any A n c bs 12 4 W (h.below hW) (by omega)
  obtain ⟨hs0, hs1⟩ := pgetV4_bd h.byt 8
  obtain ⟨s, hsn⟩ := Int.eq_ofNat_of_zero_le hs0
  have how : ownV bs = (s : Int) := hsn
  have hs2 := Lib.hid (show s < 4294967296 by omega)
  rw [how, Int.toNat_natCast] at hcode
  rw [how, Int.toNat_natCast] at hrec
  rw [hsn] at hG8
  generalize (getV bs 0 4).1 = v0 at *
  generalize (getV bs 4 4).1 = v1 at *
  generalize (getV bs 12 4).1 = v3 at *
  replace hG0 := Lib.hid hG0
  replace hG4 := Lib.hid hG4
  replace hG8 := Lib.hid hG8
  replace hG12 := Lib.hid hG12
  clear hs0 hs1
  by_cases h16 : n < 16
  · have hk := Lib.hid (hcode.trans (if_pos h16))
    clear hcode hrec how hlen h hsn
    go_enter Try.func67, Try.ntmps67
    go_wp2_with (first
      | (go_at_call_of 56 (Value.int IntKind.i64 (0 : Int)); refine (hG0.out _ hbz.out).mono ?_; rintro e w1 ⟨rfl, rfl⟩)
      | (go_at_call_of 56 (Value.int IntKind.i64 (8 : Int)); refine (hG8.out _ hbz.out).mono ?_; rintro e w1 ⟨rfl, rfl⟩)
      | (go_at_call_of 56 (Value.int IntKind.i64 (12 : Int)); refine (hG12.out _ hbz.out).mono ?_; rintro e w1 ⟨rfl, rfl⟩)
      | (go_at_call 56; refine (hG4.out _ hbz.out).mono ?_; rintro e w1 ⟨rfl, rfl⟩)
      | (refine wpList_store_S rfl (.tmp 2) (.tmp 17) rfl w.heap.size zeroQc rfl rfl _ kz.out rfl rfl (one_Q zeroQ none 0 0) ?_)
      | fail)
    exact bodyPost_ret (presults_ctt Try.results67 rfl (run_load_S (Blk.mk (setRow_heap _ _ _ zeroQc _ _ kz.out.at_)) rfl)) rfl (ROneOut.bad hk.out (by decide) (below_row hbz.out (Nat.le_refl _) _))
  · rw [if_neg h16] at hcode
    by_cases hsz : (n : Int) - 16 < s
    · have hk := Lib.hid (hcode.trans (if_pos hsz))
      clear hcode hrec how hlen h hsn
      go_enter Try.func67, Try.ntmps67
      go_wp2_with (first
        | (go_at_call_of 56 (Value.int IntKind.i64 (0 : Int)); refine (hG0.out _ hbz.out).mono ?_; rintro e w1 ⟨rfl, rfl⟩)
        | (go_at_call_of 56 (Value.int IntKind.i64 (8 : Int)); refine (hG8.out _ hbz.out).mono ?_; rintro e w1 ⟨rfl, rfl⟩)
        | (go_at_call_of 56 (Value.int IntKind.i64 (12 : Int)); refine (hG12.out _ hbz.out).mono ?_; rintro e w1 ⟨rfl, rfl⟩)
        | (go_at_call 56; refine (hG4.out _ hbz.out).mono ?_; rintro e w1 ⟨rfl, rfl⟩)
        | (refine wpList_store_S rfl (.tmp 2) (.tmp 43) rfl w.heap.size zeroQc rfl rfl _ kz.out rfl rfl (one_Q zeroQ none 0 0) ?_)
        | fail)
      exact bodyPost_ret (presults_ctt Try.results67 rfl (run_load_S (Blk.mk (setRow_heap _ _ _ zeroQc _ _ kz.out.at_)) rfl)) rfl (ROneOut.bad hk.out (by decide) (below_row hbz.out (Nat.le_refl _) _))
    · rw [if_neg hsz, hrec] at hcode
      obtain ⟨b, off, rfl, hbl, hc⟩ := h.mem (by omega)
      have hnc := h.nc
      have hcm : c ≤ 9223372036854775807 := by have := h.cm; unfold maxLen at this; omega
      have hd16 := (h.drop_any 16 (by omega)).first_ (show s ≤ n - 16 by omega)
      obtain ⟨A1, hif1⟩ : ∃ A1, (if c = 16 then some (⟨b, off, none⟩ : Addr) else some ⟨b, off + 16, none⟩) = A1 := ⟨_, rfl⟩
      rw [hif1] at hd16
      obtain ⟨d, hdd⟩ : ∃ d, (bs.drop 16).take s = d := ⟨_, rfl⟩
      rw [hdd] at hd16 hcode hrec
      have hD := Lib.hid (fun W (hW : Below w.heap.size w W) => hd16.below hW)
      have hws : IntKind.i64.wrap (16 + (s : Int)) = 16 + (s : Int) := by rw [IntKind.wrap_i64]; omega
      have hwn : IntKind.i64.wrap ((n : Int) - 16) = (n : Int) - 16 := by rw [IntKind.wrap_i64]; omega
      have q1 : (16 : Int) + s ≤ c := by omega
      have q4 : (0 : Int) ≤ 16 + s := by omega
      have q5 : ((16 : Int) + s).toNat = 16 + s := by omega
      have q6 : (16 : Int) ≤ 16 + s := by omega
      have q3 : 16 + s - 16 = s := by omega
      have q7 : 16 + s ≤ c := by omega
      have hsl : s ≤ 100000 := by omega
      have hck := Lib.hid (fun A c W => RefPMay_any (⟨v0, v1, v3, d⟩ : QP) A s c W (by omega))
      have hrec2 := Lib.hid hrec
      have how2 := Lib.hid how
      have hsn2 := Lib.hid hsz
      replace hrec := 0
      replace how := 0
      replace hdd := 0
      replace h := 0
      replace hd16 := 0
      replace hcm := 0
      clear hc hlen hsn
      cases hmb : mayB ⟨v0, v1, v3, d⟩ s
      · rw [hmb] at hck hcode
        have hk := Lib.hid (hcode.trans (if_pos rfl))
        clear hcode hmb
        go_enter Try.func67, Try.ntmps67
        go_wp2_with (first
          | (go_at_call_of 56 (Value.int IntKind.i64 (0 : Int)); refine (hG0.out _ hbz.out).mono ?_; rintro e w1 ⟨rfl, rfl⟩)
          | (go_at_call_of 56 (Value.int IntKind.i64 (8 : Int)); refine (hG8.out _ hbz.out).mono ?_; rintro e w1 ⟨rfl, rfl⟩)
          | (go_at_call_of 56 (Value.int IntKind.i64 (12 : Int)); refine (hG12.out _ hbz.out).mono ?_; rintro e w1 ⟨rfl, rfl⟩)
          | (go_at_call 56; refine (hG4.out _ hbz.out).mono ?_; rintro e w1 ⟨rfl, rfl⟩)
          | (at_builtin; refine wpList_append_bytes _ rfl (.const (.slice none 0 0)) (.tmp 50) rfl rfl rfl (OB.nil _ w.heap.size) (by first | exact hD.out _ hbz.out | (rw [q3]; exact hD.out _ hbz.out) : RB (w.alloc (.cells zeroQc 90)) A1 _ (c - 16) d) (by omega) hbz.out.size ?_; intro A9 c9 w9 ho9 hg9 hr9; simp only [Nat.zero_add, List.nil_append] at ho9; have hb9 := hbz.out.grown hg9 hbz.out.size (fun k hk => by simp [ownBlk] at hk); have kz9 := Lib.hid (Blk.mk ((((Below.refl (w.heap.size + 1) _).grown hg9 (by simp) (fun k hk => by simp [ownBlk] at hk)).block w.heap.size (Nat.lt_succ_self _)).trans kz.out.at_)); replace ho9 := Lib.hid ho9; replace hb9 := Lib.hid hb9; clear hg9 hr9)
          | (go_at_call 64; refine (hck.out _ _ _).mono ?_; rintro e w8 ⟨rfl, hB8⟩; have hba := hb9.out.alloc hb9.out.size (.cells (cellsQ ⟨v0, v1, v3, d⟩ A9 s c9) 90); have hb8 := Lib.hid (hba.trans (hB8.mono hba.size)); have kz8 := Lib.hid ((kz9.out.alloc (.cells (cellsQ ⟨v0, v1, v3, d⟩ A9 s c9) 90)).to hB8); have gb8 := Lib.hid ((Blk.new w9 (cellsQ ⟨v0, v1, v3, d⟩ A9 s c9) 90).to hB8); have ho8 := Lib.hid ((ho9.out.alloc (.cells (cellsQ ⟨v0, v1, v3, d⟩ A9 s c9) 90)).below hB8); replace hB8 := 0; clear hba)
          | (refine wpList_store_S rfl (.tmp 2) (.tmp 56) rfl w.heap.size zeroQc rfl rfl _ kz8.out rfl rfl (one_Q zeroQ none 0 0) ?_)
          | fail)
        exact bodyPost_ret (presults_ctt Try.results67 rfl (run_load_S (Blk.mk (setRow_heap _ _ _ zeroQc _ _ kz8.out.at_)) rfl)) rfl (ROneOut.bad hk.out (by decide) (below_row hb8.out (Nat.le_refl _) _))
      · rw [hmb] at hck hcode
        have hk := Lib.hid (hcode.trans (if_neg (by decide)))
        clear hcode hmb
        go_enter Try.func67, Try.ntmps67
        go_wp2_with (first
          | (go_at_call_of 56 (Value.int IntKind.i64 (0 : Int)); refine (hG0.out _ hbz.out).mono ?_; rintro e w1 ⟨rfl, rfl⟩)
          | (go_at_call_of 56 (Value.int IntKind.i64 (8 : Int)); refine (hG8.out _ hbz.out).mono ?_; rintro e w1 ⟨rfl, rfl⟩)
          | (go_at_call_of 56 (Value.int IntKind.i64 (12 : Int)); refine (hG12.out _ hbz.out).mono ?_; rintro e w1 ⟨rfl, rfl⟩)
          | (go_at_call 56; refine (hG4.out _ hbz.out).mono ?_; rintro e w1 ⟨rfl, rfl⟩)
          | (at_builtin; refine wpList_append_bytes _ rfl (.const (.slice none 0 0)) (.tmp 50) rfl rfl rfl (OB.nil _ w.heap.size) (by first | exact hD.out _ hbz.out | (rw [q3]; exact hD.out _ hbz.out) : RB (w.alloc (.cells zeroQc 90)) A1 _ (c - 16) d) (by omega) hbz.out.size ?_; intro A9 c9 w9 ho9 hg9 hr9; simp only [Nat.zero_add, List.nil_append] at ho9; have hb9 := hbz.out.grown hg9 hbz.out.size (fun k hk => by simp [ownBlk] at hk); have kz9 := Lib.hid (Blk.mk ((((Below.refl (w.heap.size + 1) _).grown hg9 (by simp) (fun k hk => by simp [ownBlk] at hk)).block w.heap.size (Nat.lt_succ_self _)).trans kz.out.at_)); replace ho9 := Lib.hid ho9; replace hb9 := Lib.hid hb9; clear hg9 hr9)
          | (go_at_call 64; refine (hck.out _ _ _).mono ?_; rintro e w8 ⟨rfl, hB8⟩; have hba := hb9.out.alloc hb9.out.size (.cells (cellsQ ⟨v0, v1, v3, d⟩ A9 s c9) 90); have hb8 := Lib.hid (hba.trans (hB8.mono hba.size)); have kz8 := Lib.hid ((kz9.out.alloc (.cells (cellsQ ⟨v0, v1, v3, d⟩ A9 s c9) 90)).to hB8); have gb8 := Lib.hid ((Blk.new w9 (cellsQ ⟨v0, v1, v3, d⟩ A9 s c9) 90).to hB8); have ho8 := Lib.hid ((ho9.out.alloc (.cells (cellsQ ⟨v0, v1, v3, d⟩ A9 s c9) 90)).below hB8); replace hB8 := 0; clear hba)
          | (refine wpList_load_S rfl (.tmp 13) rfl w9.heap.size rfl (cellsQ ⟨v0, v1, v3, d⟩ A9 s c9) gb8.out rfl ?_)
          | (refine wpList_store_S rfl (.tmp 2) (.tmp 57) rfl w.heap.size (cellsQ ⟨v0, v1, v3, d⟩ A9 s c9) rfl rfl _ kz8.out rfl rfl (one_Q _ _ _ _) ?_)
          | fail)
        refine bodyPost_ret (presults_ctt Try.results67 rfl (run_load_S (Blk.mk (setRow_heap _ _ _ (cellsQ ⟨v0, v1, v3, d⟩ A9 s c9) _ _ kz8.out.at_)) rfl)) rfl ?_
        unfold ROneOut oneRQ oneRN
        rw [hk.out, if_pos rfl, if_pos rfl, hrec2.out, how2.out]
        exact ⟨A9, s, c9, by first | rfl | simp, (ho8.out.stay (StayT.row kz8.out _) (show 5 ≠ 90 from by decide)), below_row hb8.out (Nat.le_refl _) _⟩
end Go.Proofs.Ytbbdkfadcafpfaa
