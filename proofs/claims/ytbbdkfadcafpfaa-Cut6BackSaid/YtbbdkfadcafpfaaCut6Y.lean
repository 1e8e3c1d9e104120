/- Fragments of IPv6 (cut6): walk of Cut, where the packet is too long. -/
import Derived.Test.YtbbdkfadcafpfaaCut6P
import Derived.Test.YtbbdkfadcafpfaaFragO
set_option linter.unusedVariables false
namespace Go.Proofs.Ytbbdkfadcafpfaa
open Go Go.RowKit
attribute [local go_sem] Oper.semAt_some

set_option maxRecDepth 100000 in
set_option maxHeartbeats 4000000 in
theorem Cut6_long (P : Array Value) (p : V6P) (A : Option Addr) (n c : Nat) (id mtu : Int) (w : World) (h : V6V P p A n c) (hr : RB w A n c p.data) (h1 : ¬ mtu < 1280) (h2 : ¬ 65535 < mtu) (h3 : fitsB id 4 = true) (h4 : checkV p n = 0) (hn : n ≤ 60000) (h5 : ¬ (40 + n : Int) ≤ mtu) :
    Calls Try.prog 33 #[.agg P, .int .i64 id, .int .i64 mtu] w (CutOut w p id mtu) := by
  have hl := hr.len
  obtain ⟨mo, hmo⟩ : ∃ mo, (mtu - 48).toNat = mo := ⟨_, rfl⟩
  have hmo2 : mtu - 40 - 8 = (mo : Int) := by omega
  have hm1 : 1232 ≤ mo := by omega
  have hm2 : mo ≤ 65487 := by omega
  have e1 : cutK p id mtu = 0 := by unfold cutK; rw [if_neg (by simp [h1, h2, h3]), hl]; exact h4
  have e2 : cutR p id mtu = (chunksC mo p.data).map (fragOf p id) := by unfold cutR; rw [if_pos e1, hl, if_neg h5, hmo]
  obtain ⟨⟨ht0, ht1⟩, ⟨hn0, hn1⟩, ⟨hp0, hp1⟩, ⟨hf0, hf1⟩, hn9⟩ := checkV_ok h4
  have hmem := Lib.hid (fun x hx => chunksF_mem (most := mo) (size := mo / 8 * 8) (data := p.data) (by omega) (by omega) (by omega) (p.data.length + 1) 0 (by omega) (by omega) x hx)
  have hid := Lib.hid (show fitsP id 4 from of_decide_eq_true h3)
  have hnx := Lib.hid (show fitsP p.nx 1 from ⟨by omega, hn0, by simpa using hn1⟩)
  replace e1 := Lib.hid e1
  replace e2 := Lib.hid e2
  obtain ⟨hB, hsz, kP, k4, k6, k7⟩ := cut6S_facts w P id 0
  unfold cut6S at hB hsz kP k4 k6 k7
  have c4 := k4.cell
  have hK := fun W => V6Check_any P p A n c W h
  rw [h4] at hK
  have hS := Lib.hid (fun W => V6Size_any P p A n c W h (by omega))
  have hF := Lib.hid (fun W => Fits_any id 4 W)
  rw [h3] at hF
  have d1 : decide (mtu < 1280) = false := decide_eq_false h1
  have d2 : decide (65535 < mtu) = false := decide_eq_false h2
  have d5 : decide ((40 + n : Int) ≤ mtu) = false := decide_eq_false h5
  have hV := Lib.hid (show (Try.prog.info? 26).map (·.size) = some P.size by rw [h.size]; exact info_v6)
  have hP36 := Lib.hid h.h36
  have hV6 := Lib.hid h
  obtain ⟨b, off, rfl, hbl, _⟩ := hr.mem (by omega)
  have hrb := Lib.hid hr
  have hblN := Lib.hid (show b < w.heap.size ∧ 0 < n from ⟨hbl, by omega⟩)
  replace hK := Lib.hid hK
  replace hB := Lib.hid hB
  replace hsz := Lib.hid hsz
  replace kP := Lib.hid kP
  replace k4 := Lib.hid k4
  replace k6 := Lib.hid k6
  replace k7 := Lib.hid k7
  have m1 : 1280 ≤ mtu := by omega
  have m2 : mtu ≤ 65535 := by omega
  clear h hr h1 h2 h3 h4 h5 hl hmo ht0 ht1 hn0 hn1 hp0 hp1 hf0 hf1
  refine (callsIn_wide (n := 0)).1 ?_
  refine callsIn_of_wp_marks Try.func33 rfl trivial ?_ rfl
  simp only [Try.ntmps33, List.size_toArray, List.length_cons, List.length_nil, Nat.reduceAdd, Nat.reduceSub, Array.replicate_succ, Array.replicate_zero, List.push_toArray, List.append_toArray, List.nil_append, List.cons_append]
  refine wpIn_wide.2 ?_
  go_wp2_with (first
    | (go_at_call 52; refine (hF.out _).mono ?_; rintro e w' ⟨rfl, rfl⟩)
    | (refine wpList_load_row rfl 26 (.tmp 3) rfl w.heap.size rfl _ P _ _ kP1.out.at_ Try.underlying26 rfl hV.out ?_)
    | (refine wpList_load_row rfl 26 (.tmp 3) rfl w.heap.size rfl _ P _ _ kP.out.at_ Try.underlying26 rfl hV.out ?_)
    | (go_at_call 19; refine (hK.out _).mono ?_; rintro e w1 ⟨rfl, hB1⟩; have b4 := Lib.hid (Boxed.below k4.out hB1); have b6 := Lib.hid (Boxed.below k6.out hB1); have b7 := Lib.hid (Boxed.below k7.out hB1); have kP1 := Lib.hid (kP.out.to hB1); have hb1 := Lib.hid (hB.out.trans (hB1.mono (by have := hsz.out; omega))); replace hB1 := 0)
    | (go_at_call 17; refine (hS.out _).mono ?_; rintro e w2 ⟨rfl, hB2⟩; have b42 := Lib.hid (Boxed.below b4.out hB2); have b62 := Lib.hid (Boxed.below b6.out hB2); have b72 := Lib.hid (Boxed.below b7.out hB2); have kP2 := Lib.hid (kP1.out.to hB2); have c36 := (kP2.out.alloc (.cells #[.slice none 0 0] 46)).cell 36 _ hP36.out; have hb2 := Lib.hid (hb1.out.trans (hB2.mono hb1.out.size)); replace hB2 := 0)
    | (go_at_call 59; refine (Chunks_call _ _ _ _ _).mono ?_; rintro e w' ⟨rfl, rfl⟩)
    | fail)
  obtain ⟨Ws, hWs⟩ : ∃ Ws, ((w2.alloc (.cells #[.slice none 0 0] 46)).alloc (.cells #[.slice (some ⟨b, off, none⟩) n c] 24)).alloc (.cells #[.int .i64 (mo : Int)] 3) = Ws := ⟨_, rfl⟩
  rw [hWs]
  have hsz1 : w2.heap.size + 3 ≤ Ws.heap.size := by rw [← hWs]; simp
  have hsz2 : Ws.heap.size ≤ w2.heap.size + 3 := by rw [← hWs]; simp
  have hw7 := b72.out.lt
  have x1 : Boxed Ws w2.heap.size 46 (.slice none 0 0) := by
    rw [← hWs]
    exact ((Boxed.new w2 46 (.slice none 0 0)).alloc _).alloc _
  have x2 : Boxed Ws (w2.heap.size + 1) 24 (.slice (some ⟨b, off, none⟩) n c) := by
    rw [← hWs]
    have := Boxed.new (w2.alloc (.cells #[.slice none 0 0] 46)) 24 (.slice (some ⟨b, off, none⟩) n c)
    rw [World.size_alloc] at this
    exact this.alloc _
  have x3 : Boxed Ws (w2.heap.size + 2) 3 (.int .i64 (mo : Int)) := by
    rw [← hWs]
    have := Boxed.new ((w2.alloc (.cells #[.slice none 0 0] 46)).alloc (.cells #[.slice (some ⟨b, off, none⟩) n c] 24)) 3 (.int .i64 (mo : Int))
    rw [World.size_alloc, World.size_alloc] at this
    exact this
  have hB4 : Below w2.heap.size w2 Ws := by
    rw [← hWs]
    exact (((Below.refl _ w2).alloc (Nat.le_refl _) _).alloc (by simp) _).alloc (by simp; omega) _
  have kPs := kP2.out.to hB4
  have k4s := Boxed.below b42.out hB4
  have k6s := Boxed.below b62.out hB4
  have k7s := Boxed.below b72.out hB4
  have hbs := hb2.out.trans (hB4.mono hb2.out.size)
  have hrs := hrb.out.below hbs
  have hbw := hb2.out.size
  have hblw := hblN.out.1
  have hn00 := hblN.out.2
  clear hWs c36
  have hseq := Chunks_seq (w2.heap.size + 2) (w2.heap.size + 1) mo n c b off p.data (fun k => k = w2.heap.size) Ws x3 x2 hrs (by omega) (by omega) (by omega) (by omega) (by omega) (by omega) (by omega) (by omega)
  refine wpIn_wide.1 (range_kR (gf := 75) (lb := #[.pointer (some ⟨w2.heap.size + 2, 0, none⟩), .pointer (some ⟨w2.heap.size + 1, 0, none⟩)]) rfl (enters_of Try.func75 (by kernel_rfl) rfl) (own := fun k => k = w2.heap.size) (by intro k hk; omega)
    hseq ?hps
    (fun i X => ∃ A5 c5 ps, Boxed X w2.heap.size 46 (.slice A5 i c5) ∧ LS kV6 X (Ws.heap.size + 2) 26 A5 i c5 ps ∧ ps.map (·.1) = ((chunksC mo p.data).take i).map (fragOf p id))
    (fun _ _ _ => False)
    (fun i X Y h hg => by obtain ⟨A5, c5, ps, h1, h2, h3⟩ := h; exact ⟨A5, c5, ps, hg.boxed h1, h2.gr hg, h3⟩) (fun _ _ _ _ h _ => h)
    ⟨none, 0, [], x1, LS.nil _ _ _ _, rfl⟩ ?round ?done ?stop)
  case hps =>
    rintro i e W ⟨a, m, d, c1, _, rfl, _⟩
    rfl
  case stop =>
    rintro cd i W' hile h hk' hd
    exact h.elim
  case round =>
    rintro l' i e W' him ⟨a, m, d, c1, hel, rfl, hrd⟩ hi hk hs'
    gi_wp2
    refine ⟨(Below.refl _ _).alloc (Nat.le_refl _) _, fun W₂ hg hs2 => ?_⟩
    obtain ⟨A5, c5, ps, i1, hlo, hps⟩ := hi
    replace i1 := hg.boxed (i1.alloc _)
    have hA5 : ownBlk A5 ≠ some W'.heap.size := fun e => by have := (hlo.blk e).2; omega
    have hlo2 := (hlo.alloc _).gr hg
    have hrd2 := hg.rb (hrd.alloc _)
    have kf := (Blk.new W' #[.int .i64 0, .int .i64 (a : Int), .int .i64 0, .bool m] 36).gr hg
    have hk2 : KeepX (fun k => k = w2.heap.size) Ws.heap.size Ws W₂ := hg.keepX rfl (hk.alloc (by omega) _)
    have kP3 : Blk W₂ w.heap.size P 26 := ⟨(hk2.keep _ (by omega) (by omega)).trans kPs.at_⟩
    have k43 : Boxed W₂ (w.heap.size + 1) 3 (.int .i64 id) := (hk2.keep _ (by omega) (by omega)).trans k4s
    have c2 := kP3.cell 2 _ hV6.out.h2
    have c4 := k43.cell
    have z0 := kf.cell 0 _ rfl
    have z2 := kf.cell 2 _ rfl
    have f0 := kf.frz 0
    have f2 := kf.frz 2
    have hne1 : W'.heap.size ≠ w.heap.size := by omega
    have hne2 : W'.heap.size ≠ w.heap.size + 1 := by omega
    have hokF : a % 8 = 0 ∧ a < p.data.length ∧ d.length ≤ mo := hmem.out (a, m, d) (List.mem_of_getElem? hel)
    have hplen := hrb.out.len
    have hdl := hrd.len
    have hn9' := hn9
    have hin : i ≤ n := by have := chunksF_len mo (mo / 8 * 8) p.data (p.data.length + 1) 0; have := hrb.out.len; have : i < (chunksC mo p.data).length := him; unfold chunksC at this; omega
    obtain ⟨Wd, hWd⟩ : ∃ Wd, ((W₂.setCell ⟨W'.heap.size, 0, none⟩ (.int .i64 p.nx)).setCell ⟨W'.heap.size, 2, none⟩ (.int .i64 id)).drew = Wd := ⟨_, rfl⟩
    have kf4 : Blk Wd W'.heap.size #[.int .i64 p.nx, .int .i64 (a : Int), .int .i64 id, .bool m] 36 := by
      rw [← hWd]; exact ((kf.set 0 _).set 2 _).drew
    have hlo4 := hlo2.far9 hA5 (kf.nobytes (fun u hu x => by simp at hu; rcases hu with rfl | rfl | rfl | rfl <;> simp)) 0 (.int .i64 p.nx)
    have hlo5 := hlo4.far9 hA5 ((kf.set 0 (.int .i64 p.nx)).nobytes (fun u hu x => by simp at hu; rcases hu with rfl | rfl | rfl | rfl <;> simp)) 2 (.int .i64 id)
    have hlo6 : LS kV6 Wd (Ws.heap.size + 2) 26 A5 i c5 ps := by rw [← hWd]; exact hlo5.below (Below.refl _ _).drew
    have hrd4 := hrd2.farN (kf.nobytes (fun u hu x => by simp at hu; rcases hu with rfl | rfl | rfl | rfl <;> simp)) 0 (.int .i64 p.nx)
    have hrd5 := hrd4.farN ((kf.set 0 (.int .i64 p.nx)).nobytes (fun u hu x => by simp at hu; rcases hu with rfl | rfl | rfl | rfl <;> simp)) 2 (.int .i64 id)
    have hrd6 : RB Wd (some ⟨b, off + a, none⟩) d.length c1 d := by rw [← hWd]; exact hrd5.below (Below.refl _ _).drew
    have kP4 : Blk Wd w.heap.size P 26 := by rw [← hWd]; exact ((kP3.far (by omega) _ _).far (by omega) _ _).drew
    have i14 : Boxed Wd w2.heap.size 46 (.slice A5 i c5) := by rw [← hWd]; exact Boxed.farC (Boxed.farC i1 (by omega) _ _) (by omega) _ _
    have hkx4 : KeepX (fun k => k = w2.heap.size) (Ws.heap.size + 2) W₂ Wd := by
      rw [← hWd]
      exact (((KeepX.refl _ _ _).setCell (p := ⟨W'.heap.size, 0, none⟩) (.inr hs') _).setCell (p := ⟨W'.heap.size, 2, none⟩) (.inr hs') _).trans (KeepX.of_below (Below.refl (Ws.heap.size + 2) _).drew (Nat.le_refl _))
    have hszd : Ws.heap.size + 2 ≤ Wd.heap.size := by have := hkx4.size; have := hg.size; rw [World.size_alloc] at this; omega
    have hBF := Lib.hid (fun W => BuildFragO_any p.nx (a : Int) id m W ⟨hnx.out, hid.out, by omega, by omega, by omega⟩)
    unfold FragOwn at hBF
    have hVsz := Lib.hid (show zeroVx.size = P.size by rw [hV6.out.size]; rfl)
    have hVone := Lib.hid hV6.out.one
    have htk : ((chunksC mo p.data).take (i + 1)).map (fragOf p id) = ((chunksC mo p.data).take i).map (fragOf p id) ++ [fragOf p id (a, m, d)] := by rw [List.take_add_one, hel]; simp
    replace htk := Lib.hid htk
    replace hlo6 := Lib.hid hlo6
    replace hrd6 := Lib.hid hrd6
    replace kP4 := Lib.hid kP4
    have z40 := kf4.cell 0 _ rfl
    have z41 := kf4.cell 1 _ rfl
    have z42 := kf4.cell 2 _ rfl
    have z43 := kf4.cell 3 _ rfl
    replace i14 := Lib.hid i14
    replace hkx4 := Lib.hid hkx4
    replace kf4 := Lib.hid kf4
    replace hps := Lib.hid hps
    have hbo := Lib.hid (fun k' (hk' : ownBlk A5 = some k') => hlo6.out.blk hk')
    clear hs2 hg hlo hk hs' hlo2 hlo4 hlo5 hrd4 hrd5 hrd2 hrd kf kP3 k43 hk2 i1 hel him hseq
    gi_wp2
    gi_region
    all_goals
      clear c2 c4 z0 z2 f0 f2 hWd
      gi_wp2_with (first
        | (gi_at_builtin; refine wpListIn_append_ls _ rfl 46 26 (.tmp 68) (.tmp 70) rfl (.agg zeroVx) 88 Try.underlying46 info_v6r rfl (by decide) rfl (g := w8.heap.size) rfl hlo8.out (q := (fragOf p id (a, m, d), ((P.setIfInBounds 2 (.int .i64 44)).setIfInBounds 36 (.slice A8 (8 + d.length) c8)), A8, 8 + d.length, c8)) hq8.out (Blk.new w8 _ _) hs8.out (by omega) hz8.out ?_; intro A9 c9 w9 hlo9 hg9 hr9; have i19 := Boxed.kept hi8.out hg9 (fun e => by have := (hbo.out _ e.symm).1; omega); have c19 := i19.cell; have f19 := i19.frozen; have hi19 := Lib.hid i19; clear i19 hr9)
        | (refine wpListIn_build1 _ rfl 46 26 (.tmp 69) rfl ((P.setIfInBounds 2 (.int .i64 44)).setIfInBounds 36 (.slice A8 (8 + d.length) c8)) rfl 37 hsz8.out (by decide) (by decide) Try.underlying46 (.agg zeroVx) 88 info_v6r ?_)
        | (refine wpListIn_load_row rfl 26 (.tmp 14) rfl w5.heap.size rfl _ ((P.setIfInBounds 2 (.int .i64 44)).setIfInBounds 36 (.slice A8 (8 + d.length) c8)) _ _ kX8.out.at_ Try.underlying26 rfl hV8.out ?_)
        | (gi_at_builtin; refine wpListIn_append_bytes _ rfl (.tmp 63) (.tmp 64) rfl rfl rfl ho67.out hrd67.out (by omega) hb6s.out ?_; intro A8 c8 w7 ho8 hg7 hr7; have hne7 : ownBlk A7 ≠ some w5.heap.size := fun e => (by have := (ho7.out.blk e).2; omega); have hne8 : ownBlk A8 ≠ some w5.heap.size := fun e => (by have h6 := hbe6.out.size; have h61 := kX6.out.lt; rcases hr7 with h | h; exact hne7 (h.symm.trans e); have h9 := Option.some.inj (h.symm.trans e); omega); have hb7 := hb6.out.grown hg7 hb6.out.size (fun k hk => (ho67.out.blk hk).1); have kX7 : Blk w7 w5.heap.size P 26 := ⟨(hg7.block _ kX6.out.lt (fun e => hne7 e.symm)).trans kX6.out.at_⟩; have d2 := kX7.cell 2 _ hV6.out.h2; have g2 := kX7.frz 2; have g36 := (kX7.set 2 (.int .i64 44)).frz 36; have d36 := (kX7.set 2 (.int .i64 44)).cell 36 (.slice (some ⟨b, off, none⟩) n c) (by rw [Array.getElem?_setIfInBounds_ne (by decide)]; exact hV6.out.h36); have kX8 := (kX7.set 2 (.int .i64 44)).set 36 (.slice A8 (8 + d.length) c8); have hb8 := (hb7.setCell (p := ⟨w5.heap.size, 2, none⟩) hb5.out.size (.int .i64 44)).setCell (p := ⟨w5.heap.size, 36, none⟩) hb5.out.size (.slice A8 (8 + d.length) c8); have hr8 := ((ho8.rb.farB hne8 2 (.int .i64 44)).farB hne8 36 (.slice A8 (8 + d.length) c8)); generalize hw8 : (w7.setCell ⟨w5.heap.size, 2, none⟩ (.int .i64 44)).setCell ⟨w5.heap.size, 36, none⟩ (.slice A8 (8 + d.length) c8) = w8 at kX8 hb8 hr8; have hlo8 := Lib.hid ((hlo6.out.below hb8).alloc (.cells ((P.setIfInBounds 2 (.int .i64 44)).setIfInBounds 36 (.slice A8 (8 + d.length) c8)) 26)); have i18 := Boxed.below i14.out hb8; have e18 := i18.cell; have hi8 := Lib.hid (i18.alloc (.cells ((P.setIfInBounds 2 (.int .i64 44)).setIfInBounds 36 (.slice A8 (8 + d.length) c8)) 26)); have hs8 := Lib.hid (show ∀ s ∈ kV6.sl (fragOf p id (a, m, d), ((P.setIfInBounds 2 (.int .i64 44)).setIfInBounds 36 (.slice A8 (8 + d.length) c8)), A8, 8 + d.length, c8), RB (w8.alloc (.cells ((P.setIfInBounds 2 (.int .i64 44)).setIfInBounds 36 (.slice A8 (8 + d.length) c8)) 26)) s.1 s.2.1 s.2.2.1 s.2.2.2 ∧ (0 < s.2.1 → ∀ k, ownBlk s.1 = some k → ownBlk A5 ≠ some k) from fun s hs => (by rw [show s = (A8, 8 + d.length, c8, bytesF p.nx a id m ++ d) from List.mem_singleton.1 hs]; exact ⟨hr8.alloc _, fun _ k hk e => (by have h1 := (ho8.blk hk).1; have h2 := (hbo.out k e).2; omega)⟩)); have hq8 := Lib.hid (show kV6.ok (fragOf p id (a, m, d), ((P.setIfInBounds 2 (.int .i64 44)).setIfInBounds 36 (.slice A8 (8 + d.length) c8)), A8, 8 + d.length, c8) from (hV6.out.next 44).data A8 (8 + d.length) c8 _); have hsz8 := Lib.hid (show (((P.setIfInBounds 2 (.int .i64 44)).setIfInBounds 36 (.slice A8 (8 + d.length) c8))).size = 37 by rw [Array.size_setIfInBounds, Array.size_setIfInBounds, hV6.out.size]); have hV8 := Lib.hid (show (Try.prog.info? 26).map (·.size) = some (((P.setIfInBounds 2 (.int .i64 44)).setIfInBounds 36 (.slice A8 (8 + d.length) c8))).size by rw [hsz8.out]; exact info_v6); have hz8 := Lib.hid (show Ws.heap.size + 2 ≤ (w8.alloc (.cells ((P.setIfInBounds 2 (.int .i64 44)).setIfInBounds 36 (.slice A8 (8 + d.length) c8)) 26)).heap.size by rw [World.size_alloc]; have := hb8.size; omega); have hkx8 := Lib.hid ((hkx4.out.trans (KeepX.of_below hb8 hszd)).alloc (by have := hb8.size; omega) (.cells ((P.setIfInBounds 2 (.int .i64 44)).setIfInBounds 36 (.slice A8 (8 + d.length) c8)) 26)); have hs78 : w8.heap.size = w7.heap.size := (by rw [← hw8]; simp [World.setCell]); replace kX8 := Lib.hid kX8; replace ho8 := 0; clear hr7 hg7 hb7 kX7 hb8 hr8 i18)
        | (refine wpListIn_store_row rfl 26 (.tmp 14) (.tmp 62) rfl w5.heap.size P rfl rfl _ zeroVx (Blk.new w5 zeroVx 26).at_ hV.out hVsz.out hVone.out ?_; have hbe : Below w5.heap.size w5 ((w5.alloc (.cells zeroVx 26)).setRow w5.heap.size P) := below_row ((Below.refl _ w5).alloc (Nat.le_refl _) _) (Nat.le_refl _) _; have kX6 : Blk ((w5.alloc (.cells zeroVx 26)).setRow w5.heap.size P) w5.heap.size P 26 := ⟨setRow_heap _ _ _ _ _ _ (Blk.new w5 zeroVx 26).at_⟩; generalize (w5.alloc (.cells zeroVx 26)).setRow w5.heap.size P = w6 at *; have hb6 := Lib.hid (hb5.out.trans (hbe.mono hb5.out.size)); have hb6s := Lib.hid hb6.out.size; have ho67 := Lib.hid (ho7.out.below hbe); have hrd67 := Lib.hid (hrd7.out.below hbe); have hbe6 := Lib.hid hbe; replace kX6 := Lib.hid kX6; replace hbe := 0)
        | (refine wpListIn_load_row rfl 26 (.tmp 3) rfl w.heap.size rfl _ P _ _ kP5.out.at_ Try.underlying26 rfl hV.out ?_)
        | (refine ⟨trivial, rfl, (callsIn_wide.2 (hBF.out Wd)).mono ?_⟩; rintro e w5 ⟨A7, c7, rfl, ho7, hB5⟩; have hlo7 := Lib.hid (hlo6.out.below hB5); have hrd7 := Lib.hid (hrd6.out.below hB5); have kP5 := Lib.hid (kP4.out.to hB5); have i15 := Lib.hid (Boxed.below i14.out hB5); have hb5 := Lib.hid hB5; replace ho7 := Lib.hid ho7; replace hB5 := 0)
        | fail)
      have q19 := hi19.out
      have k19 : Blk w9 w2.heap.size #[.slice A5 i c5] 46 := ⟨q19⟩
      refine ⟨((hkx8.out.grown hg9 hz8.out (fun k hk => .inr (hbo.out k hk).1)).setCell (p := ⟨w2.heap.size, 0, none⟩) (.inl rfl) _), A9, c9, _, Boxed.set _ q19, hlo9.far9 (fun e => by have := (hlo9.blk e).1; omega) (k19.nobytes (fun u hu x => by simp at hu; rw [hu]; simp)) 0 _, ?_⟩
      rw [List.map_append, hps.out, htk.out]; rfl
  case done =>
    rintro W' ⟨A5, c5, ps, i1, hlo, hps⟩ hk' hd
    rw [List.take_length] at hps
    have hBW : Below w.heap.size w W' := ⟨hk'.os.trans hbs.os, hk'.tape.trans hbs.tape, hk'.output.trans hbs.output, Nat.le_trans hbs.size hk'.size, fun j hj => (hk'.keep j (by omega) (by omega)).trans (hbs.block j hj)⟩
    have b6 : Boxed W' (w.heap.size + 2) 46 (.slice none 0 0) := (hk'.keep _ (by omega) (by omega)).trans k6s
    have b7 : Boxed W' (w.heap.size + 3) 28 (.int .i64 0) := (hk'.keep _ (by omega) (by omega)).trans k7s
    have c9 := i1.cell
    have c6 := b6.cell
    have f6 := b6.frozen
    have c7 := b7.cell
    have f7 := b7.frozen
    have r6 := Lib.hid (Boxed.other (Boxed.set (.slice A5 (chunksC mo p.data).length c5) b6) (B' := w.heap.size + 3) (by omega) (.int .i64 0)).cell
    have b72 := Boxed.other b7 (B' := w.heap.size + 2) (by omega) (.slice A5 (chunksC mo p.data).length c5)
    have r7 := Lib.hid (Boxed.set (.int .i64 0) b72).cell
    have hl1 := hlo.far9 (B := w.heap.size + 2) (fun e => by have := (hlo.blk e).1; omega) ((Blk.mk b6 : Blk W' (w.heap.size + 2) #[.slice none 0 0] 46).nobytes (fun u hu x => by simp at hu; rw [hu]; simp)) 0 (.slice A5 (chunksC mo p.data).length c5)
    have hl2 := Lib.hid (hl1.far9 (B := w.heap.size + 3) (fun e => by have := (hl1.blk e).1; omega) ((Blk.mk b72 : Blk _ (w.heap.size + 3) #[.int .i64 0] 28).nobytes (fun u hu x => by simp at hu; rw [hu]; simp)) 0 (.int .i64 0))
    have hdf := Lib.hid (show ((W'.setCell ⟨w.heap.size + 2, 0, none⟩ (.slice A5 (chunksC mo p.data).length c5)).setCell ⟨w.heap.size + 3, 0, none⟩ (.int .i64 0)).heap[Ws.heap.size]? = some (.deferred (some [])) from
      (Below.heap_setCell _ _ _ _ (by simp; omega)).trans ((Below.heap_setCell _ _ _ _ (by simp; omega)).trans hd))
    have hbf := Lib.hid ((hBW.setCell (p := ⟨w.heap.size + 2, 0, none⟩) (by simp) (.slice A5 (chunksC mo p.data).length c5)).setCell (p := ⟨w.heap.size + 3, 0, none⟩) (by simp) (.int .i64 0))
    replace hps := Lib.hid hps
    replace i1 := Lib.hid i1
    clear hd hk' hl1 hlo hBW b72 b6 b7 hseq
    go_wp2
    refine leave_marks (N := w.heap.size) ⟨Ws.heap.size, rfl, by omega, hdf.out, by simp, trivial⟩ fun W3 hg => ?_
    have q6 := hg.cell r6.out
    have q7 := hg.cell r7.out
    exact ⟨.tuple #[.slice A5 (chunksC mo p.data).length c5, .int .i64 0], by simp [results, Try.results33, go_sem, q6, q7], CutOut.one e1.out (hl2.out.gr hg).lr (by rw [hps.out, e2.out]) (hg.below (Nat.le_refl _) hbf.out (Nat.le_refl _))⟩
end Go.Proofs.Ytbbdkfadcafpfaa
