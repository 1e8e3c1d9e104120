/- slices.AppendSeq and slices.Collect of packets of IPv4, over an iterator that writes its captured packet. -/
import Derived.Test.YtipigcpenmcaoaaCut4P
import Derived.Test.YtipigcpenmcaoaaRangeW
import Derived.Test.YtipigcpenmcaoaaRound
import Derived.Test.YtipigcpenmcaoaaDigits
import Derived.Test.YtipigcpenmcaoaaMake
set_option linter.unusedVariables false
namespace Go.Proofs.Ytipigcpenmcaoaa
open Go Go.RowKit Go.Shelf
attribute [local go_sem] Oper.semAt_some

theorem RB.fw {gp : Nat} {W0 W : World} {A : Option Addr} {n c : Nat} {bs : List Int} (hf : Fw gp W0 W) (h : RB W0 A n c bs) : RB W A n c bs :=
  ⟨h.len, h.nc, h.cm, h.byt, h.niln, fun hn => by
    obtain ⟨b, off, rfl, hlt, hc⟩ := h.mem hn
    have hne : b ≠ gp := fun e => by subst e; exact hf.2 _ _ (hc 0 hn)
    exact ⟨b, off, rfl, by have := hf.1.size; omega, fun j hj => (hf.1.cell (p := ⟨b, off + j, none⟩) hlt hne).trans (hc j hj)⟩⟩
theorem LS.fw {κ : Kd} {gp : Nat} {W0 W : World} {base : Nat} {T : TypeId} {A : Option Addr} {n c : Nat} {ps : List κ.β} (hf : Fw gp W0 W) (hgp : gp < base) (h : LS κ W0 base T A n c ps) : LS κ W base T A n c ps := by
  refine ⟨⟨h.1.own.1, ?_⟩, h.2.1, fun x hx => ⟨(h.2.2 x hx).1, fun s hs => ⟨((h.2.2 x hx).2 s hs).1.fw hf, ((h.2.2 x hx).2 s hs).2⟩⟩⟩
  rcases h.1.own.2 with h2 | ⟨g, cap, cur, hv, hg0, hh, r⟩
  · exact .inl h2
  · exact .inr ⟨g, cap, cur, hv, hg0, (hf.1.keep g (Array.getElem?_eq_some_iff.1 hh).1 (by omega)).trans hh, r⟩
theorem Boxed.fw {gp : Nat} {W0 W : World} {B : Nat} {T : TypeId} {v : Value} (hf : Fw gp W0 W) (hB : B ≠ gp) (h : Boxed W0 B T v) : Boxed W B T v := (hf.1.keep B h.lt hB).trans h

theorem KeepX.weak {own own' : Nat → Prop} {N : Nat} {A B : World} (h : KeepX own N A B) (ho : ∀ k, own k → own' k) : KeepX own' N A B := ⟨h.os, h.tape, h.output, h.size, fun k hk hn => h.keep k hk (fun hh => hn (ho k hh))⟩

/-- What the i-th round hands on: the i-th packet; its bytes lie in blocks made since the last round. -/
def YieldF (fs : List V4P) (i : Nat) (e : Array Value) (W0 W1 : World) : Prop :=
  ∃ x : B4, fs[i]? = some x.p ∧ e = #[.agg x.cells] ∧ ∀ s ∈ kV4.sl x, RB W1 s.1 s.2.1 s.2.2.1 s.2.2.2 ∧ (0 < s.2.1 → ∀ k, ownBlk s.1 = some k → W0.heap.size ≤ k)
def CollPost (w : World) (gp : Nat) (fs : List V4P) (e : Ending) (w' : World) : Prop :=
  ∃ A2 c2 qs, e = .returned (.slice A2 fs.length c2) ∧ LS kV4 w' w.heap.size 24 A2 fs.length c2 qs ∧ qs.map (·.p) = fs ∧ KeepX (fun k => k = gp) w.heap.size w w'

set_option maxRecDepth 100000 in
set_option maxHeartbeats 1000000 in
theorem AppendSeqV4_any (gf gp : Nat) (lb : Array Value) (fs : List V4P) (w : World) (hgp : gp < w.heap.size) (hfs : fs.length ≤ 100000)
    (eg : ∀ args w, (callFunc gf args).run Try.prog w = .ok (.enter gf args) w)
    (hseq : ∀ W, Below w.heap.size w W → w.heap.size < W.heap.size → SeqRelW Try.prog gf lb fs.length (YieldF fs) (fun k => k = w.heap.size) gp W) :
    Calls Try.prog 100 #[.slice none 0 0, .func (.func gf) #[] lb] w (CollPost w gp fs) := by
  refine (callsIn_wide (n := 0)).1 ?_
  refine callsIn_of_wp_marks Try.func100 rfl trivial ?_ rfl
  simp only [Try.ntmps100, List.size_toArray, List.length_cons, List.length_nil, Nat.reduceAdd, Nat.reduceSub, Array.replicate_succ, Array.replicate_zero, List.push_toArray, List.append_toArray, List.nil_append, List.cons_append]
  gi_wp2
  obtain ⟨Ws, hWs⟩ : ∃ Ws, w.alloc (.cells #[.slice none 0 0] 26) = Ws := ⟨_, rfl⟩
  rw [hWs]
  have hsz : Ws.heap.size = w.heap.size + 1 := by rw [← hWs]; simp
  have hbx : Boxed Ws w.heap.size 26 (.slice none 0 0) := by rw [← hWs]; exact Boxed.new _ _ _
  have hBw : Below w.heap.size w Ws := by rw [← hWs]; exact (Below.refl _ w).alloc (Nat.le_refl _) _
  replace hseq := Lib.hid (hseq Ws hBw (by omega))
  clear hWs
  refine range_isW (gf := gf) (lb := lb) rfl eg (own := fun k => k = w.heap.size) (gp := gp) (by omega) (by omega) (by omega) hseq.out ?hps
    (fun i F W => ∃ A2 c2 qs, F = (fun k => ownBlk A2 = some k) ∧ Boxed W w.heap.size 26 (.slice A2 i c2) ∧ LS kV4 W (Ws.heap.size + 2) 24 A2 i c2 qs ∧ qs.map (·.p) = fs.take i ∧ KeepX (fun k => k = w.heap.size ∨ k = gp) Ws.heap.size Ws W)
    (fun _ _ _ => False) ?hIF (fun k => ownBlk none = some k) (fun i F A B h hg => ?hI) (fun _ _ _ _ h _ => h) (fun W hg => ⟨none, 0, [], rfl, hg.boxed hbx, LS.nil _ _ _ _, rfl, hg.keepX rfl (KeepX.refl _ _ _)⟩) ?round ?done ?stop
  case hps =>
    rintro i e W0 W ⟨x, _, rfl, _⟩
    rfl
  case hIF =>
    rintro i F A ⟨A2, c2, qs, rfl, h1, h2, h3, h4⟩ k hk
    exact h2.blk hk
  case hI =>
    obtain ⟨A2, c2, qs, h0, h1, h2, h3, h4⟩ := h
    exact ⟨A2, c2, qs, h0, hg.boxed h1, h2.gr hg, h3, hg.keepX rfl h4⟩
  case stop =>
    rintro D cd i W' _ hile h hd
    exact h.elim
  case round =>
    rintro l i F e W0 W him ⟨x, hx, rfl, hsl⟩ ⟨A2, c2, qs, rfl, hx1, hls, hqs, hkx⟩ hfw hs0
    have hkw : KeepX (fun k => k = w.heap.size ∨ k = gp) Ws.heap.size Ws W := hkx.trans (KeepX.weak (hfw.1.mono (by have := hkx.size; omega)) (fun k hk => .inr hk))
    have hx1' := Boxed.fw hfw (by omega) hx1
    have hls' := hls.fw hfw (by omega)
    have hfar : ∀ s ∈ kV4.sl x, RB W s.1 s.2.1 s.2.2.1 s.2.2.2 ∧ (0 < s.2.1 → ∀ k, ownBlk s.1 = some k → ownBlk A2 ≠ some k) := fun s hs => ⟨(hsl s hs).1, fun h0 k hk e => by have h1 := (hsl s hs).2 h0 k hk; have h2 := (hls.blk e).2; omega⟩
    have hszW := hfw.1.size
    have htk : fs.take (i + 1) = fs.take i ++ [x.p] := by rw [List.take_add_one, hx]; rfl
    have hone : x.cells.all (·.oneCell') = true := by rw [← Array.all_toList, List.all_eq_true]; exact kV4.one x trivial
    have hPs : x.cells.size = 11 := rfl
    obtain ⟨P, hP⟩ : ∃ P, x.cells = P := ⟨_, rfl⟩
    rw [hP] at hone hPs ⊢
    have hV := Lib.hid (show (Try.prog.info? 24).map (·.size) = some P.size by rw [hPs]; exact info_v4)
    have hVz := Lib.hid (show zero4c.size = P.size by rw [hPs]; rfl)
    replace hone := Lib.hid hone
    replace hPs := Lib.hid hPs
    replace hP := Lib.hid hP
    gi_wp2_with (first
      | (refine wpListIn_store_row rfl 24 (.tmp 5) (.tmp 7) rfl W.heap.size P rfl rfl _ zero4c (Blk.new W zero4c 24).at_ hV.out hVz.out hone.out ?_; have hbe : Below W.heap.size W ((W.alloc (.cells zero4c 24)).setRow W.heap.size P) := below_row ((Below.refl _ W).alloc (Nat.le_refl _) _) (Nat.le_refl _) _; have kX : Blk ((W.alloc (.cells zero4c 24)).setRow W.heap.size P) W.heap.size P 24 := ⟨setRow_heap _ _ _ _ _ _ (Blk.new W zero4c 24).at_⟩; generalize (W.alloc (.cells zero4c 24)).setRow W.heap.size P = W1 at *)
      | fail)
    refine ⟨hbe, fun W₂ hg hs2 => ?_⟩
    have i1 := hg.boxed (Boxed.below hx1' hbe)
    have hls2 := (hls'.below hbe).gr hg
    have hsl2 : ∀ s ∈ kV4.sl x, RB W₂ s.1 s.2.1 s.2.2.1 s.2.2.2 ∧ (0 < s.2.1 → ∀ k, ownBlk s.1 = some k → ownBlk A2 ≠ some k) := fun s hs => ⟨hg.rb ((hfar s hs).1.below hbe), (hfar s hs).2⟩
    have kX2 := kX.gr hg
    have hk2 : KeepX (fun k => k = w.heap.size ∨ k = gp) Ws.heap.size Ws W₂ := hg.keepX rfl (hkw.trans (KeepX.of_below hbe (by omega)))
    have hszb := hbe.size
    have hz2 : Ws.heap.size + 2 ≤ W₂.heap.size := by omega
    have hszk : W.heap.size ≤ W₂.heap.size := by omega
    have hbo := Lib.hid (fun k' (hk' : ownBlk A2 = some k') => hls2.blk hk')
    have c1 := i1.cell
    have f1 := i1.frozen
    replace i1 := Lib.hid i1
    replace hls2 := Lib.hid (hls2.alloc (.cells P 24))
    replace hsl2 := Lib.hid (show ∀ s ∈ kV4.sl x, RB (W₂.alloc (.cells P 24)) s.1 s.2.1 s.2.2.1 s.2.2.2 ∧ (0 < s.2.1 → ∀ k, ownBlk s.1 = some k → ownBlk A2 ≠ some k) from fun s hs => ⟨(hsl2 s hs).1.alloc _, (hsl2 s hs).2⟩)
    have hnew := Lib.hid (show Blk (W₂.alloc (.cells P 24)) W₂.heap.size (kV4.cells x) 24 from hP.out ▸ Blk.new _ _ _)
    replace kX2 := Lib.hid kX2
    replace hk2 := Lib.hid hk2
    replace htk := Lib.hid htk
    replace hqs := Lib.hid hqs
    clear kX hbe hg hs2 hls' hx1' hfar hkw hkx hx1 hls hsl hx hfw hseq
    gi_wp2_with (first
      | (gi_at_builtin; refine wpListIn_append_ls _ rfl 26 24 (.tmp 8) (.tmp 10) rfl (.agg zero4c) 112 Try.underlying26 info_v4z rfl (by decide) rfl (g := W₂.heap.size) rfl hls2.out (q := x) trivial hnew.out hsl2.out (by omega) (by simp; omega) ?_; intro A9 c9 w9 hlo9 hg9 hr9; have i9 := Boxed.kept (i1.out.alloc (.cells P 24)) hg9 (fun e => by have := (hbo.out _ e.symm).1; omega); have c19 := i9.cell; have f19 := i9.frozen; have hi9 := Lib.hid i9; clear i9)
      | (refine wpListIn_build1 _ rfl 26 24 (.tmp 9) rfl P rfl 11 hPs.out (by decide) (by decide) Try.underlying26 (.agg zero4c) 112 info_v4z ?_)
      | (refine wpListIn_load_row rfl 24 (.tmp 5) rfl W.heap.size rfl _ P _ _ kX2.out.at_ Try.underlying24 rfl hV.out ?_)
      | fail)
    have q9 := hi9.out
    have k9 : Blk w9 w.heap.size #[.slice A2 i c2] 26 := ⟨q9⟩
    refine ⟨((((KeepX.refl (fun k => k = w.heap.size ∨ ownBlk A2 = some k) W.heap.size W₂).alloc hszk _).grown hg9 (by simp; omega) (fun k hk => .inl (.inr hk))).setCell (p := ⟨w.heap.size, 0, none⟩) (.inl (.inl rfl)) _), _, ⟨A9, c9, _, rfl, Boxed.set _ q9, hlo9.far9 (fun e => by have := (hlo9.blk e).1; omega) (k9.nobytes (fun u hu x => by simp at hu; rw [hu]; simp)) 0 _, by rw [List.map_append, hqs.out, htk.out]; rfl, ?_⟩, fun k hk => ?_⟩
    rotate_left
    · rcases hr9 with h | h
      · exact .inl (h ▸ hk)
      · exact .inr (by rw [h] at hk; cases hk; simp; omega)
    exact (((hk2.out.alloc (by omega) _).grown hg9 (by simp; omega) (fun k hk => .inr (by have := (hbo.out k hk).1; omega))).setCell (p := ⟨w.heap.size, 0, none⟩) (.inl (.inl rfl)) _)
  case done =>
    rintro D F W0 W1 W' rfl ⟨A2, c2, qs, rfl, hx1, hls, hqs, hkx⟩ hfw hg hs0 hd
    have hkw : KeepX (fun k => k = w.heap.size ∨ k = gp) Ws.heap.size Ws W' := hg.keepX rfl (hkx.trans (KeepX.weak (hfw.1.mono (by omega)) (fun k hk => .inr hk)))
    have hx1' := hg.boxed (Boxed.fw hfw (by omega) hx1)
    have hls' := Lib.hid ((hls.fw hfw (by omega)).gr hg)
    have hc0 := hx1'.cell
    rw [List.take_length] at hqs
    replace hqs := Lib.hid hqs
    clear hls hx1 hfw hg hkx hseq
    gi_wp2
    refine leave_marks (N := w.heap.size) ⟨Ws.heap.size, rfl, by omega, hd, by simp, trivial⟩ fun W3 hg => ?_
    refine ⟨_, results_tmp rfl _ _ _, A2, c2, qs, rfl, (hls'.out.gr hg).mono (by omega), hqs.out, hg.keepX rfl ?_⟩
    exact ⟨hkw.os.trans hBw.os, hkw.tape.trans hBw.tape, hkw.output.trans hBw.output, Nat.le_trans hBw.size hkw.size, fun j hj hn => (hkw.keep j (by omega) (by rintro (e | e); omega; exact hn e)).trans (hBw.block j hj)⟩
set_option maxHeartbeats 1000000 in
theorem CollectV4_any (gf gp : Nat) (lb : Array Value) (fs : List V4P) (w : World) (hgp : gp < w.heap.size) (hfs : fs.length ≤ 100000)
    (eg : ∀ args w, (callFunc gf args).run Try.prog w = .ok (.enter gf args) w)
    (hseq : ∀ W, Below w.heap.size w W → w.heap.size < W.heap.size → SeqRelW Try.prog gf lb fs.length (YieldF fs) (fun k => k = w.heap.size) gp W) :
    Calls Try.prog 54 #[.func (.func gf) #[] lb] w (CollPost w gp fs) := by
  have hA := Lib.hid (AppendSeqV4_any gf gp lb fs w hgp hfs eg hseq)
  clear hseq
  go_enter Try.func54, Try.ntmps54
  go_wp2_with (first
    | (go_at_call 100; refine (hA.out).mono ?_; rintro e w1 ⟨A2, c2, qs, rfl, h1, h2, h3⟩; replace h1 := Lib.hid h1; replace h2 := Lib.hid h2)
    | fail)
  go_ret
  exact ⟨A2, c2, qs, rfl, h1.out, h2.out, h3⟩
end Go.Proofs.Ytipigcpenmcaoaa
