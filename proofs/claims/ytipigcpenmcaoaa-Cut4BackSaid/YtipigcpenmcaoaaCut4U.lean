/- Fragments of IPv4: a packet's fragments are the packet again, each as small as was asked. No program in sight. -/
import Derived.Test.YtipigcpenmcaoaaCut4G
set_option linter.unusedVariables false
namespace Go.Proofs.Ytipigcpenmcaoaa
open Go Go.RowKit

/-- What each fragment of p has: all but place, options and data are p's. -/
def Piece (p x : V4P) : Prop := x.tos = p.tos ∧ x.id = p.id ∧ x.ttl = p.ttl ∧ x.pr = p.pr ∧ x.src = p.src ∧ x.dst = p.dst ∧ x.df = p.df
theorem okV4_iff (p : V4P) (no n : Nat) : okV4 p no n = true ↔ fitsA p = true ∧ endsA p = true ∧ (0 ≤ p.off ∧ p.off ≤ 65528 ∧ p.off.tmod 8 = 0 ∧ (p.mf = true → (n : Int) % 8 = 0)) ∧ ((no : Int) ≤ 40 ∧ (no : Int) % 4 = 0) := by
  unfold okV4 placeA optsA
  simp only [Bool.and_eq_true, decide_eq_true_eq, beq_iff_eq, Bool.or_eq_true, Bool.not_eq_true']
  constructor
  · rintro ⟨h1, h2, ⟨h3, h4, h5, h6⟩, h7⟩
    exact ⟨h1, h2, ⟨h3, h4, h5, fun hm => by rcases h6 with h | h; rw [hm] at h; cases h; exact h⟩, h7⟩
  · rintro ⟨h1, h2, ⟨h3, h4, h5, h6⟩, h7⟩
    refine ⟨h1, h2, ⟨h3, h4, h5, ?_⟩, h7⟩
    cases hm : p.mf
    · exact .inl rfl
    · exact .inr (h6 hm)
theorem checkV4_iff (p : V4P) (no n : Nat) : checkV4 p no n = 0 ↔ okV4 p no n = true ∧ (20 + no + n : Int) ≤ 65535 ∧ p.off ≤ 65535 - n := by
  unfold checkV4
  split
  · rename_i h
    split
    · constructor
      · intro h; omega
      · rintro ⟨_, h1, h2⟩; omega
    · exact ⟨fun _ => ⟨h, by omega, by omega⟩, fun _ => rfl⟩
  · rename_i h
    exact ⟨fun h => by omega, fun h' => absurd h'.1 h⟩
theorem tmod8 {a : Int} (h : 0 ≤ a) : a.tmod 8 = a % 8 := Int.tmod_eq_emod_of_nonneg h
theorem fit4_cases {head left : Nat} {mtu : Int} (h1 : head ≤ 60) (h3 : 68 ≤ mtu) : (fit4 head left mtu = left ∧ (head : Int) + left ≤ mtu) ∨ (fit4 head left mtu < left ∧ 8 ≤ fit4 head left mtu ∧ (fit4 head left mtu : Int) % 8 = 0 ∧ (head : Int) + fit4 head left mtu ≤ mtu) := by
  unfold fit4
  split
  · exact .inl ⟨rfl, by omega⟩
  · right; omega
/-- A packet of which all but place, options and data is p's may be. -/
theorem piece_ok {p x : V4P} (hp : Piece p x) (hfits : fitsA p = true) (hends : endsA p = true) {mtu : Int} (h2 : mtu ≤ 65535) (hs : (20 + x.opts.length + x.data.length : Int) ≤ mtu) (ho : x.opts.length ≤ 40) (ho4 : (x.opts.length : Int) % 4 = 0)
    (h0 : 0 ≤ x.off) (h8 : x.off % 8 = 0) (hm : x.off + x.data.length ≤ 65535) (hmf : x.mf = true → (x.data.length : Int) % 8 = 0) : chk4 x = 0 := by
  unfold chk4
  rw [checkV4_iff, okV4_iff]
  obtain ⟨p1, p2, p3, p4, p5, p6, p7⟩ := hp
  refine ⟨⟨?_, ?_, ⟨h0, by omega, by rw [tmod8 h0]; exact h8, hmf⟩, by omega, ho4⟩, by omega, by omega⟩
  · unfold fitsA at *; rw [p1, p2, p3, p4]; exact hfits
  · unfold endsA at *; rw [p5, p6]; exact hends
/-- What holds of the fragments of what is left, from a place on. -/
theorem frags_law {p : V4P} {mtu : Int} (h1 : 68 ≤ mtu) (h2 : mtu ≤ 65535) (hfits : fitsA p = true) (hends : endsA p = true) {others : List Int} (ho : others.length ≤ 40) (ho4 : (others.length : Int) % 4 = 0) (hmf : p.mf = true → (p.data.length : Int) % 8 = 0) (h0 : 0 ≤ p.off) (hmax : p.off + p.data.length ≤ 65535) (h8 : p.off % 8 = 0) :
    ∀ (f : Nat) (q : V4P) (left done : List Int), Piece p q → q.opts.length ≤ 40 → (q.opts.length : Int) % 4 = 0 → left.length ≤ f → p.data = done ++ left → (done.length : Int) % 8 = 0 → q.off = p.off + done.length →
      (∀ x ∈ fragsF mtu p.mf others (f + 1) q left, (20 + x.opts.length + x.data.length : Int) ≤ mtu ∧ chk4 x = 0 ∧ Piece p x) ∧
      (fragsF mtu p.mf others (f + 1) q left).flatMap (·.data) = left ∧
      (∃ x0 r, fragsF mtu p.mf others (f + 1) q left = x0 :: r ∧ x0.opts = q.opts ∧ x0.off = q.off) ∧
      (∃ i xl, fragsF mtu p.mf others (f + 1) q left = i ++ [xl] ∧ xl.mf = p.mf) ∧
      (∀ j a b, (fragsF mtu p.mf others (f + 1) q left)[j]? = some a → (fragsF mtu p.mf others (f + 1) q left)[j + 1]? = some b → follows4 a b = true) := by
  intro f
  induction f with
  | zero =>
    intro q left done hp hq1 hq2 hl hd hd8 hoff
    have hfc := fit4_cases (head := 20 + q.opts.length) (left := left.length) (mtu := mtu) (by omega) h1
    have hlen := congrArg List.length hd
    rw [List.length_append] at hlen
    rcases hfc with ⟨hf, hs⟩ | ⟨hf, _⟩
    rotate_left
    · omega
    rw [fragsF, if_pos hf]
    have hx : frag1 mtu p.mf q left = { q with mf := p.mf, data := left } := by
      unfold frag1
      rw [hf, decide_eq_false (Nat.lt_irrefl _), Bool.or_false, List.take_length]
    rw [hx]
    have hpx : Piece p { q with mf := p.mf, data := left } := hp
    refine ⟨fun x hx => ?_, by simp, ⟨_, [], rfl, rfl, rfl⟩, ⟨[], _, rfl, rfl⟩, fun j a b ha hb => ?_⟩
    · rw [List.mem_singleton.1 hx]
      exact ⟨by simp only; omega, piece_ok hpx hfits hends h2 (by simp only; omega) hq1 hq2 (by simp only; omega) (by simp only; omega) (by simp only; omega) (fun hm => by have := hmf hm; simp only; omega), hpx⟩
    · simp at hb
  | succ f ih =>
    intro q left done hp hq1 hq2 hl hd hd8 hoff
    have hfc := fit4_cases (head := 20 + q.opts.length) (left := left.length) (mtu := mtu) (by omega) h1
    have hlen := congrArg List.length hd
    rw [List.length_append] at hlen
    rcases hfc with ⟨hf, hs⟩ | ⟨hf, hf2, hf3, hf4⟩
    · rw [fragsF, if_pos hf]
      have hx : frag1 mtu p.mf q left = { q with mf := p.mf, data := left } := by
        unfold frag1
        rw [hf, decide_eq_false (Nat.lt_irrefl _), Bool.or_false, List.take_length]
      rw [hx]
      have hpx : Piece p { q with mf := p.mf, data := left } := hp
      refine ⟨fun x hx => ?_, by simp, ⟨_, [], rfl, rfl, rfl⟩, ⟨[], _, rfl, rfl⟩, fun j a b ha hb => ?_⟩
      · rw [List.mem_singleton.1 hx]
        exact ⟨by simp only; omega, piece_ok hpx hfits hends h2 (by simp only; omega) hq1 hq2 (by simp only; omega) (by simp only; omega) (by simp only; omega) (fun hm => by have := hmf hm; simp only; omega), hpx⟩
      · simp at hb
    · obtain ⟨m, hm⟩ : ∃ m, fit4 (20 + q.opts.length) left.length mtu = m := ⟨_, rfl⟩
      rw [hm] at hf hf2 hf3 hf4
      rw [fragsF, if_neg (by rw [hm]; omega)]
      have hx : frag1 mtu p.mf q left = { q with mf := true, data := left.take m } := by
        unfold frag1
        rw [hm, decide_eq_true hf, Bool.or_true]
      have htl : (left.take m).length = m := by rw [List.length_take]; omega
      rw [hx, hm]
      have hpx : Piece p { q with mf := true, data := left.take m } := hp
      have hsz : (20 + q.opts.length + (left.take m).length : Int) ≤ mtu := by rw [htl]; omega
      obtain ⟨i1, i2, ⟨x0, r, i3, i4, i5⟩, ⟨ii, xl, i6, i7⟩, i8⟩ := ih { q with mf := true, data := left.take m, off := q.off + m, opts := others } (left.drop m) (done ++ left.take m) hp ho ho4 (by rw [List.length_drop]; omega) (by rw [List.append_assoc, List.take_append_drop]; exact hd) (by rw [List.length_append, htl]; omega) (by rw [List.length_append, htl]; simp only; omega)
      obtain ⟨R, hR⟩ : ∃ R, fragsF mtu p.mf others (f + 1) { q with mf := true, data := left.take m, off := q.off + m, opts := others } (left.drop m) = R := ⟨_, rfl⟩
      rw [hR] at i1 i2 i3 i6 i8
      show (∀ x ∈ _ :: fragsF mtu p.mf others (f + 1) { q with mf := true, data := left.take m, off := q.off + m, opts := others } (left.drop m), _) ∧ _
      rw [hR]
      refine ⟨fun x hx => ?_, ?_, ⟨_, R, rfl, rfl, rfl⟩, ⟨_ :: ii, xl, by rw [i6]; rfl, i7⟩, fun j a b ha hb => ?_⟩
      · rcases List.mem_cons.1 hx with rfl | hx
        · exact ⟨hsz, piece_ok hpx hfits hends h2 hsz hq1 hq2 (by simp only; omega) (by simp only; omega) (by simp only; rw [htl]; omega) (fun _ => by simp only; rw [htl]; exact hf3), hpx⟩
        · exact i1 x hx
      · rw [List.flatMap_cons, i2, List.take_append_drop]
      · cases j with
        | zero =>
          rw [i3] at hb
          simp only [List.getElem?_cons_zero, Option.some.injEq, List.getElem?_cons_succ] at ha hb
          subst ha
          subst hb
          obtain ⟨_, _, q1, q2, q3, q4, q5, q6, q7⟩ := i1 x0 (by rw [i3]; exact List.mem_cons_self ..)
          obtain ⟨p1, p2, p3, p4, p5, p6, p7⟩ := hp
          unfold follows4
          simp only [q2, q4, q5, q6, p2, p4, p5, p6, i5, htl, beq_self_eq_true, Bool.and_self]
        | succ j => exact i8 j a b (by simpa using ha) (by simpa using hb)
theorem whole4_one (p : V4P) : whole4 [p] = p := by
  unfold whole4
  simp
theorem glue4_one {p : V4P} (h : chk4 p = 0) : glueK [p] = 0 ∧ glueV [p] = p := by
  have hk : glueK [p] = 0 := by
    unfold glueK
    rw [if_neg (by simp), if_neg (by rw [firstBad_zero (fun x hx => by rw [List.mem_singleton.1 hx]; exact h)]; decide), if_neg (by rw [chain4_true (fun j hj => by simp at hj)]; decide), whole4_one, h]
  exact ⟨hk, by unfold glueV; rw [if_pos hk, whole4_one]⟩
/-- The fragments of a packet that may be. -/
theorem frags4_back {p : V4P} {mtu : Int} (h1 : 68 ≤ mtu) (h2 : mtu ≤ 65535) (hc : chk4 p = 0) :
    (∀ x ∈ frags4 p mtu, (20 + x.opts.length + x.data.length : Int) ≤ mtu ∧ chk4 x = 0) ∧ glueK (frags4 p mtu) = 0 ∧ glueV (frags4 p mtu) = p ∧ (frags4 p mtu).flatMap (·.data) = p.data := by
  have hc' := hc
  unfold chk4 at hc'
  rw [checkV4_iff, okV4_iff] at hc'
  obtain ⟨⟨hf, he, ⟨h0, h3, h8, hmf⟩, ho, ho4⟩, hs, hm⟩ := hc'
  rw [tmod8 h0] at h8
  have hp4 := pad4_len (optsOf p.opts (places p.opts))
  obtain ⟨i1, i2, ⟨x0, r, i3, i4, i5⟩, ⟨ii, xl, i6, i7⟩, i8⟩ := frags_law (p := p) (mtu := mtu) h1 h2 hf he (others := copiedV p.opts) (copied_len (by omega)) (by unfold copiedV; omega) hmf h0 (by omega) h8 p.data.length p p.data [] ⟨rfl, rfl, rfl, rfl, rfl, rfl, rfl⟩ (by omega) ho4 (Nat.le_refl _) rfl rfl (by simp)
  obtain ⟨l, hl⟩ : ∃ l, fragsF mtu p.mf (copiedV p.opts) (p.data.length + 1) p p.data = l := ⟨_, rfl⟩
  rw [hl] at i1 i2 i3 i6 i8
  unfold frags4
  rw [hl]
  have hw : whole4 l = p := by
    unfold whole4
    obtain ⟨_, _, q1, q2, q3, q4, q5, q6, q7⟩ := i1 x0 (by rw [i3]; exact List.mem_cons_self ..)
    have e1 : l.head? = some x0 := by rw [i3]; rfl
    have e2 : l[l.length - 1]? = some xl := by rw [i6]; simp
    rw [e1, e2, i2]
    obtain ⟨a1, a2, a3, a4, a5, a6, a7, a8, a9, a10, a11⟩ := x0
    obtain ⟨b1, b2, b3, b4, b5, b6, b7, b8, b9, b10, b11⟩ := p
    simp only at *
    subst q1 q2 q3 q4 q5 q6 q7 i4 i5 i7
    rfl
  have hk : glueK l = 0 := by
    unfold glueK
    rw [if_neg (by rw [i3]; simp), if_neg (by rw [firstBad_zero (fun x hx => (i1 x hx).2.1)]; decide), if_neg, hw, hc]
    rw [chain4_true (fun j hj => by
      rw [folAt_at (List.getElem?_eq_getElem (by omega)) (List.getElem?_eq_getElem hj)]
      exact i8 j _ _ (List.getElem?_eq_getElem (by omega)) (List.getElem?_eq_getElem hj))]
    decide
  exact ⟨fun x hx => ⟨(i1 x hx).1, (i1 x hx).2.1⟩, hk, by unfold glueV; rw [if_pos hk, hw], i2⟩
end Go.Proofs.Ytipigcpenmcaoaa
