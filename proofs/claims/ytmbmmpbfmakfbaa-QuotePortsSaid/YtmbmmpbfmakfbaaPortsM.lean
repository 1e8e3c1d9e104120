/- Packets between other ends: what ports.From and ports.To answer, and that it may be sent on. No program in sight. -/
import Derived.Test.YtmbmmpbfmakfbaaPortsO
import Derived.Test.YtmbmmpbfmakfbaaClampP
import Derived.Test.YtmbmmpbfmakfbaaUdpPlain
import Derived.Test.YtmbmmpbfmakfbaaIcmpPlain
import Derived.Test.YtmbmmpbfmakfbaaIcmpW
set_option linter.unusedVariables false
namespace Go.Proofs.Ytmbmmpbfmakfbaa
open Go Go.RowKit

/-- A port, or, unless it is told, the old one. -/
def pickI (told old : Int) : Int := if told = -1 then old else told
def newU (m : UdpP) (s d : Int) : UdpP := ⟨pickI s m.s, pickI d m.d, m.ns, m.data⟩
def newT (m : TcpP) (s d : Int) : TcpP := { m with s := pickI s m.s, d := pickI d m.d }
def newI (m : IcmpP) (s d : Int) : IcmpP := withI m (pickI s d)
def movD (p : V4P) (a b s d : Int) : List Int :=
  if p.pr = 17 then builtU a b (newU (readU p.src p.dst p.data) s d) else if p.pr = 6 then builtT a b (newT (readT p.src p.dst p.data) s d) else builtI (newI (readI p.data) s d)
def movP (p : V4P) (a b s d : Int) : V4P := { p with src := a, dst := b, data := movD p a b s d }
/-- A port that is told, or stays. -/
def mayS (s : Int) : Prop := s = -1 ∨ (0 ≤ s ∧ s < 65536)

theorem pick_fits {s x : Int} (h : mayS s) (hx : 0 ≤ x ∧ x < 65536) : 0 ≤ pickI s x ∧ pickI s x < 65536 := by
  unfold pickI
  rcases h with h | h
  · rw [if_pos h]; exact hx
  · rw [if_neg (by omega)]; exact h
theorem fitsP2 {x : Int} (h : fitsP x ((2 : Nat) : Int)) : 0 ≤ x ∧ x < 65536 := ⟨h.2.1, h.2.2⟩
theorem readU_check {src dst : Int} {bs : List Int} (h : Byts bs) (hk : codeU src dst bs = 0) :
    (0 ≤ (readU src dst bs).s ∧ (readU src dst bs).s < 65536) ∧ (0 ≤ (readU src dst bs).d ∧ (readU src dst bs).d < 65536) ∧ Byts (readU src dst bs).data ∧ 8 + (readU src dst bs).data.length = bs.length ∧ bs.length ≤ 65535 := by
  have e : readU src dst bs = parsedU bs := by unfold readU; rw [if_pos hk]
  rw [e]
  have f0 := getV_fits h 0 2 (by omega) (by omega)
  have f2 := getV_fits h 2 2 (by omega) (by omega)
  have f4 := getV_fits h 4 2 (by omega) (by omega)
  have g4 := fitsP2 f4
  unfold codeU at hk
  by_cases h1 : bs.length < 8
  · rw [if_pos h1] at hk; cases hk
  rw [if_neg h1] at hk
  by_cases h2 : (getV bs 4 2).1 < 8
  · rw [if_pos h2] at hk; cases hk
  rw [if_neg h2] at hk
  by_cases h3 : (bs.length : Int) < (getV bs 4 2).1
  · rw [if_pos h3] at hk; cases hk
  rw [if_neg h3] at hk
  by_cases h4 : (getV bs 4 2).1 < (bs.length : Int)
  · rw [if_pos h4] at hk; cases hk
  have e4 : (getV bs 4 ((2 : Nat) : Int)).1 = (getV bs 4 2).1 := rfl
  rw [e4] at g4
  refine ⟨fitsP2 f0, fitsP2 f2, h.drop _, ?_, by omega⟩
  show 8 + (bs.drop 8).length = bs.length
  rw [List.length_drop]; omega
theorem readI_check {bs : List Int} (h : Byts bs) (hk : codeI bs = 0) :
    (0 ≤ (readI bs).t ∧ (readI bs).t < 256) ∧ (0 ≤ (readI bs).cd ∧ (readI bs).cd < 256) ∧ (0 ≤ (readI bs).r ∧ (readI bs).r < 4294967296) ∧ Byts (readI bs).data ∧ 8 + (readI bs).data.length = bs.length ∧ bs.length ≤ 65535 := by
  have e : readI bs = parsedI bs := by unfold readI; rw [if_pos hk]
  rw [e]
  have f4 := getV_fits h 4 4 (by omega) (by omega)
  unfold codeI at hk
  by_cases h1 : bs.length < 8
  · rw [if_pos h1] at hk; cases hk
  rw [if_neg h1] at hk
  by_cases h2 : 65535 < bs.length
  · rw [if_pos h2] at hk; cases hk
  have y0 := h.get 0
  have y1 := h.get 1
  refine ⟨⟨y0.1, by show bs[0]?.getD 0 < 256; omega⟩, ⟨y1.1, by show bs[1]?.getD 0 < 256; omega⟩, ⟨f4.2.1, f4.2.2⟩, h.drop _, ?_, by omega⟩
  show 8 + (bs.drop 8).length = bs.length
  rw [List.length_drop]; omega
theorem fitsB2 {x : Int} (h : 0 ≤ x ∧ x < 65536) : fitsB x 2 = true := fitsB_yes ⟨by omega, h.1, h.2⟩
theorem newU_ok {m : UdpP} {s d : Int} (hs : mayS s) (hd : mayS d) (h1 : 0 ≤ m.s ∧ m.s < 65536) (h2 : 0 ≤ m.d ∧ m.d < 65536) (hn : m.data.length ≤ 65527) : checkU (newU m s d) (newU m s d).data.length = 0 := by
  unfold checkU
  rw [if_neg (by rw [show fitsB (newU m s d).s 2 = true from fitsB2 (pick_fits hs h1)]; decide), if_neg (by rw [show fitsB (newU m s d).d 2 = true from fitsB2 (pick_fits hd h2)]; decide), if_neg (by show ¬ 65527 < m.data.length; omega)]
theorem newT_ok {m : TcpP} {s d : Int} {no n : Nat} (hs : mayS s) (hd : mayS d) (hok : checkT m no n = 0) : checkT (newT m s d) no n = 0 := by
  obtain ⟨hh, hf, hl⟩ := checkT_ok hok
  have h1 := hf (m.s, 2) (by simp [zsT])
  have h2 := hf (m.d, 2) (by simp [zsT])
  have hF : fitT (zsT (newT m s d) no) := by
    intro z hz
    have hz2 : z = (pickI s m.s, 2) ∨ z = (pickI d m.d, 2) ∨ z ∈ zsT m no := by
      simp only [zsT, newT, List.mem_cons, List.not_mem_nil, or_false] at hz ⊢
      rcases hz with h | h | h
      · exact .inl h
      · exact .inr (.inl h)
      · exact .inr (.inr (.inr (.inr h)))
    rcases hz2 with rfl | rfl | h
    · have := pick_fits hs (fitsP2 h1)
      exact ⟨⟨by show (1 : Int) ≤ 2; decide, by show (2 : Int) ≤ 4; decide⟩, this.1, this.2⟩
    · have := pick_fits hd (fitsP2 h2)
      exact ⟨⟨by show (1 : Int) ≤ 2; decide, by show (2 : Int) ≤ 4; decide⟩, this.1, this.2⟩
    · exact hf z h
  unfold checkT
  rw [if_pos (show headT (newT m s d) no from hh), if_pos hF, if_neg (by omega)]
theorem newI_ok {m : IcmpP} {s d : Int} (h1 : 0 ≤ m.t ∧ m.t < 256) (h2 : 0 ≤ m.cd ∧ m.cd < 256) (hn : m.data.length ≤ 65527) : checkI (newI m s d) (newI m s d).data.length = 0 := by
  unfold checkI
  have e1 : fitsB (newI m s d).t 1 = true := fitsB_yes ⟨by omega, h1.1, h1.2⟩
  have e2 : fitsB (newI m s d).cd 1 = true := fitsB_yes ⟨by omega, h2.1, h2.2⟩
  have e3 : fitsB (newI m s d).r 4 = true := fitsB_yes ⟨by omega, by show 0 ≤ pickI s d % 65536 * 65536 + m.r % 65536; omega, by show pickI s d % 65536 * 65536 + m.r % 65536 < 4294967296; omega⟩
  rw [e1, e2, e3, if_neg (by decide), if_neg (by decide), if_neg (by decide), if_neg (by show ¬ 65527 < m.data.length; omega)]
theorem chk4_ends {p : V4P} {a b : Int} {ds : List Int} (ha : rightB a = true) (hb : rightB b = true) (hl : ds.length = p.data.length) (h : chk4 p = 0) : chk4 { p with src := a, dst := b, data := ds } = 0 := by
  unfold chk4 checkV4 at h ⊢
  rw [show ({ p with src := a, dst := b, data := ds } : V4P).data.length = p.data.length from hl]
  by_cases hk : okV4 p p.opts.length p.data.length = true
  · have : okV4 { p with src := a, dst := b, data := ds } p.opts.length p.data.length = true := by
      unfold okV4 at hk ⊢
      rw [Bool.and_eq_true, Bool.and_eq_true] at hk ⊢
      exact ⟨hk.1, by unfold endsA; rw [ha, hb]; rfl, hk.2.2⟩
    rw [if_pos hk] at h; rw [if_pos this]; exact h
  · rw [if_neg hk] at h; cases h
/-- What may be known of a packet of which ports are told. -/
theorem codeP_zero {p : V4P} (hk : codeP p = 0) : chk4 p = 0 ∧ wholeB p = true ∧
    ((p.pr = 17 ∧ codeU p.src p.dst p.data = 0) ∨ (p.pr = 6 ∧ codeT p.src p.dst p.data = 0) ∨ (p.pr = 1 ∧ codeI p.data = 0 ∧ queryI (readI p.data).t = true)) := by
  unfold codeP at hk
  by_cases h1 : chk4 p = 0
  · rw [if_neg (by simpa using h1)] at hk
    cases h2 : wholeB p
    · rw [h2] at hk; simp at hk
    · rw [h2, if_neg (by decide)] at hk
      refine ⟨h1, rfl, ?_⟩
      by_cases e17 : p.pr = 17
      · rw [if_pos e17] at hk; exact .inl ⟨e17, hk⟩
      rw [if_neg e17] at hk
      by_cases e6 : p.pr = 6
      · rw [if_pos e6] at hk; exact .inr (.inl ⟨e6, hk⟩)
      rw [if_neg e6] at hk
      by_cases e1 : p.pr = 1
      · rw [if_pos e1] at hk
        by_cases hc : codeI p.data = 0
        · rw [if_neg (by simpa using hc)] at hk
          by_cases hq : queryI (readI p.data).t = true
          · exact .inr (.inr ⟨e1, hc, hq⟩)
          · rw [if_neg hq] at hk; cases hk
        · rw [if_pos hc] at hk; exact absurd hk hc
      · rw [if_neg e1] at hk; cases hk
  · rw [if_pos h1] at hk; exact absurd hk h1
theorem chk4_right {p : V4P} (h : chk4 p = 0) : rightB p.src = true ∧ rightB p.dst = true := by
  unfold chk4 checkV4 at h
  by_cases hk : okV4 p p.opts.length p.data.length = true
  · unfold okV4 at hk
    rw [Bool.and_eq_true, Bool.and_eq_true] at hk
    have := hk.2.1
    unfold endsA at this
    rw [Bool.and_eq_true] at this
    exact this
  · rw [if_neg hk] at h; cases h
theorem movD_17 {p : V4P} (h : p.pr = 17) (a b s d : Int) : movD p a b s d = builtU a b (newU (readU p.src p.dst p.data) s d) := by unfold movD; rw [if_pos h]
theorem movD_6 {p : V4P} (h : p.pr = 6) (a b s d : Int) : movD p a b s d = builtT a b (newT (readT p.src p.dst p.data) s d) := by unfold movD; rw [if_neg (by omega), if_pos h]
theorem movD_1 {p : V4P} (h : p.pr = 1) (a b s d : Int) : movD p a b s d = builtI (newI (readI p.data) s d) := by unfold movD; rw [if_neg (by omega), if_neg (by omega)]
theorem builtU_length (a b : Int) (m : UdpP) : (builtU a b m).length = 8 + m.data.length := by unfold builtU; split <;> exact bytesU_length _ _
theorem builtU_byts {a b : Int} {m : UdpP} (h : Byts m.data) : Byts (builtU a b m) := by unfold builtU; split <;> exact bytesU_byts h
/-- Between other ends. -/
theorem mov_ok {p : V4P} {a b s d : Int} (hb : Byts p.data) (hk : codeP p = 0) (ha : rightB a = true) (hb' : rightB b = true) (hs : mayS s) (hd : mayS d) :
    (movD p a b s d).length = p.data.length ∧ Byts (movD p a b s d) ∧ codeP (movP p a b s d) = 0 ∧
      portsP (movP p a b s d) = if p.pr = 1 then (1, pickI s d % 65536, pickI s d % 65536) else (p.pr, pickI s (portsP p).2.1, pickI d (portsP p).2.2) := by
  obtain ⟨h1, h2, h3⟩ := codeP_zero hk
  have hchk : ∀ ds : List Int, ds.length = p.data.length → chk4 { p with src := a, dst := b, data := ds } = 0 := fun ds hl => chk4_ends ha hb' hl h1
  have hpp : portsP p = if p.pr = 17 then (17, (readU p.src p.dst p.data).s, (readU p.src p.dst p.data).d) else if p.pr = 6 then (6, (readT p.src p.dst p.data).s, (readT p.src p.dst p.data).d) else (1, idI (readI p.data), idI (readI p.data)) := by
    unfold portsP; rw [if_neg (by omega)]
  rcases h3 with ⟨e, hc⟩ | ⟨e, hc⟩ | ⟨e, hc, hq⟩
  · obtain ⟨g1, g2, g3, g4, g5⟩ := readU_check hb hc
    have hok := newU_ok (s := s) (d := d) hs hd g1 g2 (by omega)
    obtain ⟨k1, k2⟩ := backU (src := a) (dst := b) rfl hok g3
    have hm := movD_17 e a b s d
    have hl : (movD p a b s d).length = p.data.length := by rw [hm, builtU_length]; exact g4
    have hcp : codeP (movP p a b s d) = 0 := by
      unfold codeP
      rw [if_neg (by show ¬ chk4 { p with src := a, dst := b, data := movD p a b s d } ≠ 0; rw [hchk _ hl]; decide), if_neg (by rw [show wholeB (movP p a b s d) = true from h2]; decide), if_pos (show (movP p a b s d).pr = 17 from e)]
      show codeU a b (movD p a b s d) = 0
      rw [hm]; exact k1
    refine ⟨hl, by rw [hm]; exact builtU_byts g3, hcp, ?_⟩
    rw [hpp, if_neg (by omega), if_pos e]
    unfold portsP
    rw [if_neg (by omega), if_pos (show (movP p a b s d).pr = 17 from e)]
    show (17, (readU a b (movD p a b s d)).s, (readU a b (movD p a b s d)).d) = _
    rw [hm, k2, e]
    rfl
  · obtain ⟨g1, g2, g3, g4⟩ := read_check hb hc
    have hok := newT_ok (s := s) (d := d) hs hd g1
    have k1 := back8_code (src := a) (dst := b) (m := newT (readT p.src p.dst p.data) s d) rfl rfl hok g2 g3
    have k2 := back8_read (src := a) (dst := b) (m := newT (readT p.src p.dst p.data) s d) rfl rfl hok g2 g3
    have hm := movD_6 e a b s d
    have hl : (movD p a b s d).length = p.data.length := by rw [hm]; unfold builtT; rw [bytesT_length]; exact g4
    have hcp : codeP (movP p a b s d) = 0 := by
      unfold codeP
      rw [if_neg (by show ¬ chk4 { p with src := a, dst := b, data := movD p a b s d } ≠ 0; rw [hchk _ hl]; decide), if_neg (by rw [show wholeB (movP p a b s d) = true from h2]; decide), if_neg (by show ¬ p.pr = 17; omega), if_pos (show (movP p a b s d).pr = 6 from e)]
      show codeT a b (movD p a b s d) = 0
      rw [hm]; exact k1
    refine ⟨hl, by rw [hm]; exact bytesT_byts (m := newT (readT p.src p.dst p.data) s d) g2 g3, hcp, ?_⟩
    rw [hpp, if_neg (by omega), if_neg (by omega), if_pos e]
    unfold portsP
    rw [if_neg (by omega), if_neg (by show ¬ p.pr = 17; omega), if_pos (show (movP p a b s d).pr = 6 from e)]
    show (6, (readT a b (movD p a b s d)).s, (readT a b (movD p a b s d)).d) = _
    rw [hm, k2, e]
    rfl
  · obtain ⟨g1, g2, g3, g4, g5, g6⟩ := readI_check hb hc
    have hok := newI_ok (m := readI p.data) (s := s) (d := d) g1 g2 (by omega)
    have k1 := back_code rfl hok g4
    have k2 := back_read rfl hok g4
    have hm := movD_1 e a b s d
    have hl : (movD p a b s d).length = p.data.length := by rw [hm]; unfold builtI; rw [bytesI_length]; exact g5
    have hcp : codeP (movP p a b s d) = 0 := by
      unfold codeP
      rw [if_neg (by show ¬ chk4 { p with src := a, dst := b, data := movD p a b s d } ≠ 0; rw [hchk _ hl]; decide), if_neg (by rw [show wholeB (movP p a b s d) = true from h2]; decide), if_neg (by show ¬ p.pr = 17; omega), if_neg (by show ¬ p.pr = 6; omega), if_pos (show (movP p a b s d).pr = 1 from e)]
      show (if codeI (movD p a b s d) ≠ 0 then codeI (movD p a b s d) else if queryI (readI (movD p a b s d)).t = true then 0 else 8) = 0
      rw [hm, k1, k2, if_neg (by decide), if_pos (show queryI (newI (readI p.data) s d).t = true from hq)]
    refine ⟨hl, by rw [hm]; exact bytesI_byts (m := newI (readI p.data) s d) g1 g2 g4, hcp, ?_⟩
    rw [if_pos e]
    unfold portsP
    rw [if_neg (by omega), if_neg (by show ¬ p.pr = 17; omega), if_neg (by show ¬ p.pr = 6; omega)]
    show (1, idI (readI (movD p a b s d)), idI (readI (movD p a b s d))) = _
    rw [hm, k2]
    have : idI (newI (readI p.data) s d) = pickI s d % 65536 := by
      show (pickI s d % 65536 * 65536 + (readI p.data).r % 65536) / 65536 % 65536 = _
      omega
    rw [this]
/-- What is within may be built between other ends. -/
theorem movB_17 {p : V4P} {s d : Int} (a b : Int) (hb : Byts p.data) (hk : codeP p = 0) (e : p.pr = 17) (hs : mayS s) (hd : mayS d) :
    checkU (newU (readU p.src p.dst p.data) s d) (readU p.src p.dst p.data).data.length = 0 ∧ builtU? a b (newU (readU p.src p.dst p.data) s d) (readU p.src p.dst p.data).data.length = movD p a b s d := by
  obtain ⟨h1, h2, h3⟩ := codeP_zero hk
  obtain ⟨_, hc⟩ : p.pr = 17 ∧ codeU p.src p.dst p.data = 0 := by
    rcases h3 with h | ⟨h, _⟩ | ⟨h, _⟩
    · exact h
    · omega
    · omega
  obtain ⟨g1, g2, g3, g4, g5⟩ := readU_check hb hc
  have hok : checkU (newU (readU p.src p.dst p.data) s d) (readU p.src p.dst p.data).data.length = 0 := newU_ok (s := s) (d := d) hs hd g1 g2 (by omega)
  exact ⟨hok, by unfold builtU?; rw [if_pos hok, movD_17 e]⟩
theorem movB_6 {p : V4P} {s d : Int} (a b : Int) (hb : Byts p.data) (hk : codeP p = 0) (e : p.pr = 6) (hs : mayS s) (hd : mayS d) :
    checkT (newT (readT p.src p.dst p.data) s d) (readT p.src p.dst p.data).opts.length (readT p.src p.dst p.data).data.length = 0 ∧ builtT? a b (newT (readT p.src p.dst p.data) s d) (readT p.src p.dst p.data).opts.length (readT p.src p.dst p.data).data.length = movD p a b s d := by
  obtain ⟨h1, h2, hc⟩ := codeP_six hk e
  obtain ⟨g1, g2, g3, g4⟩ := read_check hb hc
  have hok := newT_ok (s := s) (d := d) hs hd g1
  exact ⟨hok, by unfold builtT?; rw [if_pos hok, movD_6 e]⟩
theorem movB_1 {p : V4P} {s d : Int} (a b : Int) (hb : Byts p.data) (hk : codeP p = 0) (e : p.pr = 1) :
    checkI (newI (readI p.data) s d) (readI p.data).data.length = 0 ∧ builtI? (newI (readI p.data) s d) (readI p.data).data.length = movD p a b s d := by
  obtain ⟨h1, h2, h3⟩ := codeP_zero hk
  obtain ⟨_, hc, _⟩ : p.pr = 1 ∧ codeI p.data = 0 ∧ queryI (readI p.data).t = true := by
    rcases h3 with ⟨h, _⟩ | ⟨h, _⟩ | h
    · omega
    · omega
    · exact h
  obtain ⟨g1, g2, g3, g4, g5, g6⟩ := readI_check hb hc
  have hok : checkI (newI (readI p.data) s d) (readI p.data).data.length = 0 := newI_ok (m := readI p.data) (s := s) (d := d) g1 g2 (by omega)
  exact ⟨hok, by unfold builtI?; rw [if_pos hok, movD_1 e]⟩
theorem read_lens {p : V4P} (hb : Byts p.data) (hk : codeP p = 0) : (p.pr = 17 → (readU p.src p.dst p.data).data.length ≤ 65535) ∧ (p.pr = 6 → (readT p.src p.dst p.data).opts.length ≤ 65535 ∧ (readT p.src p.dst p.data).data.length ≤ 65535) ∧ (p.pr = 1 → (readI p.data).data.length ≤ 65535) := by
  obtain ⟨h1, h2, h3⟩ := codeP_zero hk
  have hl : p.data.length ≤ 65535 := by
    unfold chk4 checkV4 at h1
    by_cases hok : okV4 p p.opts.length p.data.length = true
    · rw [if_pos hok] at h1
      by_cases h6 : (65535 : Int) < 20 + p.opts.length + p.data.length ∨ (65535 : Int) - p.data.length < p.off
      · rw [if_pos h6] at h1; cases h1
      · omega
    · rw [if_neg hok] at h1; cases h1
  rcases h3 with ⟨e, hc⟩ | ⟨e, hc⟩ | ⟨e, hc, _⟩
  · obtain ⟨_, _, _, g4, _⟩ := readU_check hb hc
    exact ⟨fun _ => by omega, fun h => by omega, fun h => by omega⟩
  · obtain ⟨_, _, _, g4⟩ := read_check hb hc
    exact ⟨fun h => by omega, fun _ => ⟨by omega, by omega⟩, fun h => by omega⟩
  · obtain ⟨_, _, _, _, g5, _⟩ := readI_check hb hc
    exact ⟨fun h => by omega, fun h => by omega, fun _ => by omega⟩
/-- Which is wrong with a packet and its ends. -/
def codeV (p : V4P) (a b s d : Int) : Int := if codeP p ≠ 0 then codeP p else if rightB a = true ∧ rightB b = true ∧ fitsB (max s d) 2 = true then 0 else 1
def movQ (p : V4P) (a b s d : Int) : V4P := if codeV p a b s d = 0 then movP p a b s d else zero4
/-- Which is wrong with a packet and an endpoint. -/
def codeM (p : V4P) (addr port : Int) : Int := if codeP p ≠ 0 then codeP p else if rightB addr = true ∧ fitsB port 2 = true then 0 else 1
def fromP (p : V4P) (addr port : Int) : V4P := if codeM p addr port = 0 then movP p addr p.dst port (-1) else zero4
def toP (p : V4P) (addr port : Int) : V4P := if codeM p addr port = 0 then movP p p.src addr (-1) port else zero4
theorem fits_max (x : Int) : fitsB (max x (-1)) 2 = fitsB x 2 ∧ fitsB (max (-1) x) 2 = fitsB x 2 := by
  by_cases h : 0 ≤ x
  · rw [show max x (-1) = x by omega, show max (-1) x = x by omega]
    exact ⟨rfl, rfl⟩
  · have e : ∀ y : Int, y < 0 → fitsB y 2 = false := fun y hy => by
      refine decide_eq_false fun hf => ?_
      have := hf.2.1
      omega
    rw [e _ (by omega), e _ (by omega), e _ (by omega)]
    exact ⟨rfl, rfl⟩
theorem fits_may {x : Int} (h : fitsB x 2 = true) : mayS x := by
  have := of_decide_eq_true h
  exact .inr ⟨this.2.1, this.2.2⟩
theorem codeV_from (p : V4P) (addr port : Int) : codeV p addr p.dst port (-1) = codeM p addr port := by
  unfold codeV codeM
  by_cases h : codeP p = 0
  · have h' : ¬ codeP p ≠ 0 := fun g => g h
    rw [if_neg h', if_neg h', (chk4_right (codeP_zero h).1).2, (fits_max port).1]
    simp
  · rw [if_pos h, if_pos h]
theorem codeV_to (p : V4P) (addr port : Int) : codeV p p.src addr (-1) port = codeM p addr port := by
  unfold codeV codeM
  by_cases h : codeP p = 0
  · have h' : ¬ codeP p ≠ 0 := fun g => g h
    rw [if_neg h', if_neg h', (chk4_right (codeP_zero h).1).1, (fits_max port).2]
    simp
  · rw [if_pos h, if_pos h]
end Go.Proofs.Ytmbmmpbfmakfbaa
