/- The law TcpOptions: its walk. -/
import Derived.Test.YtccdbelngjonaaaAwake08
import Derived.Test.YtccdbelngjonaaaTameIn
set_option linter.unusedVariables false
namespace Go.Proofs.Ytccdbelngjonaaa
open Go.RowKit
attribute [local go_sem] Oper.semAt_some

theorem en_O8Equal (args : Array Value) (w : World) : (callFunc 26 args).run Try.prog w = .ok (.enter 26 args) w := enters Try.func26 (by kernel_rfl) (by kernel_rfl) args w
theorem en_O8Option (args : Array Value) (w : World) : (callFunc 57 args).run Try.prog w = .ok (.enter 57 args) w := enters Try.func57 (by kernel_rfl) (by kernel_rfl) args w
set_option maxRecDepth 100000 in
set_option maxHeartbeats 4000000 in
theorem TcpOptions_walk (A : Option Addr) (n c : Nat) (bs : List Int) (m : TcpP) (Ao : Option Addr) (no co : Nat) (Ad : Option Addr) (nd cd : Nat) (w : World) (h : RB w A n c bs) (ho : RB w Ao no co m.opts) (hd_ : RB w Ad nd cd m.data) :
    Calls Try.prog 12 #[.slice A n c, .agg (cellsT m Ao no co Ad nd cd)] w fun e w' => e = .returned (.bool true) ∧ Below w.heap.size w w' := by
  clear hd_
  have hb0 := Lib.hid ((((Below.refl _ w).alloc (Nat.le_refl _) (.cells #[.slice A n c] 22)).alloc (by simp) (.cells (cellsT m Ao no co Ad nd cd) 73)).alloc (by simp; omega) (.cells #[.bool false] 4))
  have x0 := Lib.hid (((Boxed.new w 22 (.slice A n c)).alloc (.cells (cellsT m Ao no co Ad nd cd) 73)).alloc (.cells #[.bool false] 4))
  have k1 := (Blk.new (w.alloc (.cells #[.slice A n c] 22)) (cellsT m Ao no co Ad nd cd) 73).alloc (.cells #[.bool false] 4)
  rw [World.size_alloc] at k1
  replace k1 := Lib.hid k1
  have x2 := Boxed.new ((w.alloc (.cells #[.slice A n c] 22)).alloc (.cells (cellsT m Ao no co Ad nd cd) 73)) 4 (.bool false)
  rw [World.size_alloc, World.size_alloc] at x2
  replace x2 := Lib.hid x2
  by_cases hbig : 1000 < n ∨ 1000 < no
  · have hbig' : (1000 < n) ∨ (¬ 1000 < n ∧ 1000 < no) := by omega
    clear h ho
    rcases hbig' with h1 | ⟨h1, h2⟩
    all_goals
      go_enter Try.func12, Try.ntmps12
      go_wp2_with fail
      refine (awake08 _).mono ?_
      rintro e W1 ⟨rfl, hB⟩
      have x01 := Lib.hid (x0.out.below hB)
      have k11 := Lib.hid (k1.out.to hB)
      have x21 := Lib.hid (x2.out.below hB)
      have hb1 := Lib.hid (hb0.out.trans (hB.mono hb0.out.size))
      have y0 := x01.out.cell
      have y8 := k11.out.cell 8 _ rfl
      replace hB := 0
      go_wp2_with fail
      refine (awake08 _).mono ?_
      rintro e W2 ⟨rfl, hB⟩
      have x22 := Lib.hid (x21.out.below hB)
      have hb2 := Lib.hid (hb1.out.trans (hB.mono hb1.out.size))
      have y2 := x22.out.cell
      have f2 := x22.out.frozen
      replace hB := 0
      go_wp2
      have r2 := (x22.out.set (.bool true)).cell
      exact bodyPost_ret (v := .bool true) (by simp [results, Try.results12, go_sem, r2]) rfl ⟨rfl, hb2.out.setCell (p := ⟨w.heap.size + 1 + 1, 0, none⟩) (by simp; omega) _⟩
  · have hn : n ≤ 1000 := by omega
    have hno : no ≤ 1000 := by omega
    have hPl := Lib.hid (fun W (hW : Below w.heap.size w W) => RefPlaces_any A n c bs W (h.below hW) (by omega))
    have hMS := Lib.hid (fun W (hW : Below w.heap.size w W) => MSS_any m Ao no co Ad nd cd W (ho.below hW) (by omega))
    have hRMS := Lib.hid (fun W (hW : Below w.heap.size w W) => RefMSS_any m Ao no co Ad nd cd W (ho.below hW) (by omega))
    have hlen := h.len
    have hpl := fun p (hp : p ∈ places bs) => places_lt hp
    have hplen : (places bs).length ≤ 1001 := by have := placesF_length bs (bs.length + 1) 0; unfold places; omega
    have hOp := Lib.hid (fun a W (hW : Below w.heap.size w W) (ha : a ≤ 100000) => RefOption_any A n c bs a W (h.below hW) (by omega) ha)
    obtain ⟨b, off, hA⟩ : ∃ b off, 0 < n → (A = some ⟨b, off, none⟩ ∧ b < w.heap.size) := by
      by_cases hp : 0 < n
      · obtain ⟨b, off, e, hl, _⟩ := h.mem hp
        exact ⟨b, off, fun _ => ⟨e, hl⟩⟩
      · exact ⟨0, 0, fun h => absurd h hp⟩
    replace h := Lib.hid h
    replace hbig := Lib.hid hbig
    clear ho
    have hn1 : ¬ (1000 : Int) < n := by omega
    have hno1 : ¬ (1000 : Int) < no := by omega
    refine (callsIn_wide (n := 0)).1 ?_
    refine callsIn_of_wp_marks Try.func12 rfl trivial ?_ rfl
    simp only [Try.ntmps12, List.size_toArray, List.length_cons, List.length_nil, Nat.reduceAdd, Nat.reduceSub, Array.replicate_succ, Array.replicate_zero, List.push_toArray, List.append_toArray, List.nil_append, List.cons_append]
    gi_wp2_with fail
    refine call_wide ((awake08 _).mono ?_)
    rintro e W1 ⟨rfl, hB⟩
    have x01 := Lib.hid (x0.out.below hB)
    have k11 := Lib.hid (k1.out.to hB)
    have x21 := Lib.hid (x2.out.below hB)
    have hb1 := Lib.hid (hb0.out.trans (hB.mono hb0.out.size))
    have y0 := x01.out.cell
    have y8 := k11.out.cell 8 _ rfl
    replace hB := 0
    gi_wp2_with fail
    refine call_wide ((hPl.out _ hb1.out).mono ?_)
    rintro e W2 ⟨A2, k, c2, rfl, rfl, ho2, hB2⟩
    have x02 := Lib.hid (x01.out.below hB2)
    have k12 := Lib.hid (k11.out.to hB2)
    have x22 := Lib.hid (x21.out.below hB2)
    have hb2 := Lib.hid (hb1.out.trans (hB2.mono hb1.out.size))
    clear y0 y8
    have y0 := x02.out.cell
    have hlt2 := x02.out.lt
    replace ho2 := Lib.hid ho2
    replace hB2 := 0
    gi_wp2_with fail
    refine call_wide ((Options_call _ _ _ _).mono ?_)
    rintro e w' ⟨rfl, rfl⟩
    gi_wp2_with fail
    have hsw := hb2.out.size
    obtain ⟨Ws, hWs⟩ : ∃ Ws, ((W2.alloc (.cells #[.slice A2 (places bs).length c2] 81)).alloc (.cells #[.int .i64 0] 3)).alloc (.cells #[.slice A n c] 22) = Ws := ⟨_, rfl⟩
    rw [hWs]
    have hsz : Ws.heap.size = W2.heap.size + 3 := by rw [← hWs]; simp
    have y5 : Boxed Ws W2.heap.size 81 (.slice A2 (places bs).length c2) := by
      rw [← hWs]
      exact ((Boxed.new W2 81 (.slice A2 (places bs).length c2)).alloc _).alloc _
    have y6 : Boxed Ws (W2.heap.size + 1) 3 (.int .i64 0) := by
      rw [← hWs]
      have := Boxed.new (W2.alloc (.cells #[.slice A2 (places bs).length c2] 81)) 3 (.int .i64 0)
      rw [World.size_alloc] at this
      exact this.alloc _
    have y7 : Boxed Ws (W2.heap.size + 1 + 1) 22 (.slice A n c) := by
      rw [← hWs]
      have := Boxed.new ((W2.alloc (.cells #[.slice A2 (places bs).length c2] 81)).alloc (.cells #[.int .i64 0] 3)) 22 (.slice A n c)
      rw [World.size_alloc, World.size_alloc] at this
      exact this
    have x0s : Boxed Ws w.heap.size 22 (.slice A n c) := by rw [← hWs]; exact ((x02.out.alloc _).alloc _).alloc _
    have k1s : Blk Ws (w.heap.size + 1) (cellsT m Ao no co Ad nd cd) 73 := by rw [← hWs]; exact ((k12.out.alloc _).alloc _).alloc _
    have x2s : Boxed Ws (w.heap.size + 1 + 1) 4 (.bool false) := by rw [← hWs]; exact ((x22.out.alloc _).alloc _).alloc _
    have hos : OG Ws W1.heap.size 3 1 A2 (places bs).length c2 (placeV (places bs)) := by rw [← hWs]; exact ((ho2.out.alloc _).alloc _).alloc _
    have hBs : Below w.heap.size w Ws := by rw [← hWs]; exact ((hb2.out.alloc hsw _).alloc (by simp; omega) _).alloc (by simp; omega) _
    have hrb := h.out.below hBs
    have hlt0 := x02.out.lt
    have hlt1 := k12.out.lt
    have hlt3 := x22.out.lt
    clear hWs y0 hlt2
    refine range_k (gf := 92) (lb := #[.pointer (some ⟨W2.heap.size + 1 + 1, 0, none⟩)]) rfl (enters_of Try.func92 (by kernel_rfl) rfl) (own := fun k => k = W2.heap.size + 1) (by intro k hk; omega)
      (Options_seq (W2.heap.size + 1 + 1) n c b off A bs _ Ws y7 hrb (fun hp => (hA hp).1) (by omega) (by omega) (fun hp => by have := (hA hp).2; omega)) ?hps
      (fun i W' => i ≤ (places bs).length ∧ Boxed W' (W2.heap.size + 1) 3 (.int .i64 (i : Int))) (fun _ _ _ => False)
      (fun i A B h hg => ⟨h.1, hg.boxed h.2⟩) (fun _ _ _ _ h _ => h)
      ⟨Nat.zero_le _, y6⟩ ?round ?done ?stop
    case hps =>
      intro e he
      unfold optE at he
      obtain ⟨a, _, rfl⟩ := List.mem_map.1 he
      rfl
    case round =>
      rintro l' i e W' he hi hk hs'
      unfold optE at he
      rw [List.getElem?_map] at he
      obtain ⟨a, ha, rfl⟩ := Option.map_eq_some_iff.1 he
      have hlt := (List.getElem?_eq_some_iff.1 ha).1
      obtain ⟨hp1, hp2, hp3⟩ := hpl a (List.mem_of_getElem? ha)
      rw [hlen] at hp1 hp3
      obtain ⟨rfl, hbl⟩ := hA (by omega)
      have hpa : (placeV (places bs))[i]? = some (.int .i64 (a : Int)) := by unfold placeV; rw [List.getElem?_map, ha]; rfl
      obtain ⟨g, rfl, hg0, hg1, hnc2, hcm2, hcg⟩ := hos.cells (by omega) (by decide)
      gi_wp2
      refine ⟨Below.refl _ _, fun W3 hg hs2 => ?_⟩
      obtain ⟨hi0, i6⟩ := hi
      replace i6 := hg.boxed i6
      have hgW : g ≠ W2.heap.size + 1 := fun e => by
        have h1 := hcg 0 (by omega)
        subst e
        have h2 := y6.cell
        obtain ⟨q, hq⟩ : ∃ q, (placeV (places bs))[0]? = some q := ⟨_, List.getElem?_eq_getElem (by simp [placeV]; omega)⟩
        have hgb := ho2.out.cells (by omega) (by decide)
        obtain ⟨g', e', _, hg2, _⟩ := hgb
        cases e'
        omega
      have d0 : W3.cell? ⟨w.heap.size, 0, none⟩ = some (.slice (some ⟨b, off, none⟩) n c) := hg.cell ((hk.cell (p := ⟨w.heap.size, 0, none⟩) (by simp; omega) (by simp; omega)).trans x0s.cell)
      have d5 : W3.cell? ⟨W2.heap.size, 0, none⟩ = some (.slice (some ⟨g, 0, none⟩) (places bs).length c2) := hg.cell ((hk.cell (p := ⟨W2.heap.size, 0, none⟩) (by simp; omega) (by simp)).trans y5.cell)
      have dg : W3.cell? ⟨g, i, none⟩ = some (.int .i64 (a : Int)) := hg.cell ((hk.cell (p := ⟨g, i, none⟩) hg1 hgW).trans ((hcg i (by omega)).trans hpa))
      have hr3 : RB W3 (some ⟨b, off, none⟩) n c bs := hg.rb (hk.rb hrb (by omega) (by omega))
      have hsW3 : Ws.heap.size + 2 ≤ W3.heap.size := Nat.le_trans hs' hg.size
      have hnc := hr3.nc
      have hcm := hr3.cm
      unfold maxLen at hcm
      have hcut := hr3.cutO a (optL bs a) hp1
      have hdr := (hr3.drop a (by omega)).first_ (show optL bs a ≤ n - a by omega)
      have hO := Lib.hid (fun W (hW : Below W3.heap.size W3 W) => toB (RefOption_any _ n c bs a W (hr3.below hW) (by omega) (by omega)))
      have hC1 := Lib.hid (show ∀ W, (fun W => Below W3.heap.size W3 W) W → (W.cell? ⟨W2.heap.size + 1, 0, none⟩ = some (.int .i64 (i : Int)) ∧ W.cell? ⟨w.heap.size, 0, none⟩ = some (.slice (some ⟨b, off, none⟩) n c) ∧ (W.cell? ⟨W2.heap.size, 0, none⟩ = some (.slice (some ⟨g, 0, none⟩) (places bs).length c2) ∧ W.cell? ⟨g, i, none⟩ = some (.int .i64 (a : Int)))) from fun W hS =>
        ⟨(hS.cell (p := ⟨W2.heap.size + 1, 0, none⟩) (by show _ < _; simp; omega)).trans i6.cell, (hS.cell (p := ⟨w.heap.size, 0, none⟩) (by show _ < _; simp; omega)).trans d0, (hS.cell (p := ⟨W2.heap.size, 0, none⟩) (by show _ < _; simp; omega)).trans d5, (hS.cell (p := ⟨g, i, none⟩) (by show _ < _; simp; omega)).trans dg⟩)
      have hK := Lib.hid (show ∀ W W', (fun W => Below W3.heap.size W3 W) W → Below W.heap.size W W' → (fun W => Below W3.heap.size W3 W) W' from fun W W' h1 h2 => h1.trans (h2.mono h1.size))
      have hil : (i : Int) < ((places bs).length : Int) := by omega
      generalize optL bs a = s at *
      have hwas : IntKind.i64.wrap ((a : Int) + s) = (a : Int) + s := by rw [IntKind.wrap_i64]; omega
      have hac : ¬ c = a := by omega
      have q1 : (a : Int) + s ≤ c := by omega
      have q2 : a + s ≤ c := by omega
      have q3 : a + s - a = s := by omega
      have q4 : (0 : Int) ≤ (a : Int) + s := by omega
      have q5 : ((a : Int) + s).toNat = a + s := by omega
      have q6 : a ≤ a + s := by omega
      have hL : ((places bs).length : Int) ≤ 1001 := by omega
      generalize (places bs).length = L at *
      have hge : decide ((L : Int) ≤ (i : Int)) = false := by simp; omega
      have hge2 : decide (L ≤ i) = false := by simp; omega
      have hnea : ((a : Int) != (a : Int)) = false := by simp
      replace hcut := Lib.hid hcut
      replace hdr := Lib.hid hdr
      have i6h := Lib.hid i6
      have hbt3 := Lib.hid (show Below w.heap.size w w from Below.refl _ _)
      clear he ha hk hg hs2 hr3 d0 d5 dg hcg hpa i6 hcm2 hpl
      have hs3 := Lib.hid (show Ws.heap.size + 2 ≤ W3.heap.size by omega)
      replace hsW3 := Lib.hid hsW3
      gi_wp2_with fail
      refine wpIn_region_tame (fun W => Below W3.heap.size W3 W) (by kernel_rfl) (by kernel_rfl) (by kernel_rfl) (fun ⟨_, _, h⟩ => h) (Below.refl _ _).drew ?_
      repeat (first
        | (refine tameL_skip rfl ?_; simp only [Act.put, List.setIfInBounds_toArray, List.set_cons_zero, List.set_cons_succ])
        | (refine tameL_call2 (v := .int .i64 (s : Int)) rfl 57 (.tmp 50) (.tmp 51) _ rfl en_O8Option rfl rfl ?_ ?_; exact fun W hS => (hO.out W hS).mono fun e W' ⟨he, hb⟩ => ⟨he, hK.out W W' hS hb⟩; simp only [Act.put, List.setIfInBounds_toArray, List.set_cons_zero, List.set_cons_succ])
        | (refine tameL_call2 (v := .bool true) rfl 26 (.tmp 46) (.tmp 54) _ rfl en_O8Equal rfl rfl ?_ ?_; exact fun W hS => (toB (Equal_same _ _ _ _ _ _ _ W (hcut.out.below hS) (hdr.out.below hS))).mono fun e W' ⟨he, hb⟩ => ⟨he, hK.out W W' hS hb⟩; simp only [Act.put, List.setIfInBounds_toArray, List.set_cons_zero, List.set_cons_succ])
        | (refine tameL_val (v := ?_) rfl (fun W hS => ?_) ?_; rotate_left; (· (obtain ⟨g0, g1, g2⟩ := hC1.out W hS; clear hS; go_simp; try with_reducible rfl)); simp only [Act.put, List.setIfInBounds_toArray, List.set_cons_zero, List.set_cons_succ]))
      refine tameL_nil fun W hS => ?_
      have i6w := i6h.out.below hS
      have c6 := i6w.cell
      have f6 := i6w.frozen
      have j6 := Lib.hid (i6w.set (.int .i64 ((i : Int) + 1)))
      have hkx := Lib.hid ((KeepX.of_below (own := fun k => k = W2.heap.size + 1) hS (show Ws.heap.size + 2 ≤ W3.heap.size from hs3.out)).setCell (p := ⟨W2.heap.size + 1, 0, none⟩) (.inl rfl) (.int .i64 ((i : Int) + 1)))
      clear hS
      replace i6w := Lib.hid i6w
      replace i6h := 0
      gi_wp2
      exact ⟨by have := hkx.out; rw [hsz] at this; exact this, by omega, j6.out⟩
    case done =>
      intro W' hi hk' hd
      rw [optE_length] at hi
      obtain ⟨_, i6⟩ := hi
      have hL : ((places bs).length : Int) ≤ 1001 := by omega
      generalize (places bs).length = L at *
      have hBW : Below w.heap.size w W' := ⟨hk'.os.trans hBs.os, hk'.tape.trans hBs.tape, hk'.output.trans hBs.output, Nat.le_trans hBs.size hk'.size, fun j hj => (hk'.keep j (by omega) (by omega)).trans (hBs.block j hj)⟩
      have k1w : Blk W' (w.heap.size + 1) (cellsT m Ao no co Ad nd cd) 73 := ⟨(hk'.keep (w.heap.size + 1) (by omega) (by omega)).trans k1s.at_⟩
      have x2w : Boxed W' (w.heap.size + 1 + 1) 4 (.bool false) := (hk'.keep (w.heap.size + 1 + 1) (by omega) (by omega)).trans x2s
      have y5w : Boxed W' W2.heap.size 81 (.slice A2 L c2) := (hk'.keep W2.heap.size (by omega) (by omega)).trans y5
      rw [hsz] at hd
      obtain ⟨R, hR⟩ : ∃ R, mssT m.opts = R := ⟨_, rfl⟩
      rw [hR] at hMS hRMS
      replace hBW := Lib.hid hBW
      replace k1w := Lib.hid k1w
      replace x2w := Lib.hid x2w
      replace y5w := Lib.hid y5w
      replace i6 := Lib.hid i6
      replace hd := Lib.hid hd
      clear hk' hBs hrb k1s x2s x0s y5 y6 y7 hos hlt0 hlt1 hlt3 hpl hA hR
      obtain ⟨r0, r1, r2, r3, r4, r5, r6, r7, r8, r9⟩ := tcells k1w.out
      gi_wp2_with fail
      refine call_wide ((hMS.out _ hBW.out).mono ?_)
      rintro e W4 ⟨rfl, hB4⟩
      have k14 := Lib.hid (k1w.out.to hB4)
      have x24 := Lib.hid (x2w.out.below hB4)
      have y54 := Lib.hid (y5w.out.below hB4)
      have i64 := Lib.hid (i6.out.below hB4)
      have hb4 := Lib.hid (hBW.out.trans (hB4.mono hBW.out.size))
      have hd4 := Lib.hid ((hB4.block _ (Array.getElem?_eq_some_iff.1 hd.out).1).trans hd.out)
      unfold mssV
      replace hB4 := 0
      clear r0 r1 r2 r3 r4 r5 r6 r7 r8 r9
      obtain ⟨r0, r1, r2, r3, r4, r5, r6, r7, r8, r9⟩ := tcells k14.out
      gi_wp2_with fail
      refine call_wide ((hRMS.out _ hb4.out).mono ?_)
      rintro e W5 ⟨rfl, hB5⟩
      have x25 := Lib.hid (x24.out.below hB5)
      have y55 := Lib.hid (y54.out.below hB5)
      have i65 := Lib.hid (i64.out.below hB5)
      have hb5 := Lib.hid (hb4.out.trans (hB5.mono hb4.out.size))
      have hd5 := Lib.hid ((hB5.block _ (Array.getElem?_eq_some_iff.1 hd4.out).1).trans hd4.out)
      have c5 := y55.out.cell
      have c6 := i65.out.cell
      unfold mssV
      replace hB5 := 0
      clear r0 r1 r2 r3 r4 r5 r6 r7 r8 r9
      gi_wp2_with fail
      refine call_wide ((awake08 _).mono ?_)
      rintro e W6 ⟨rfl, hB6⟩
      have x26 := x25.out.below hB6
      have hb6 := Lib.hid (hb5.out.trans (hB6.mono hb5.out.size))
      have hd6 := Lib.hid ((hB6.block _ (Array.getElem?_eq_some_iff.1 hd5.out).1).trans hd5.out)
      have c2' := x26.cell
      have f2' := x26.frozen
      replace x26 := Lib.hid x26
      replace hB6 := 0
      gi_wp2
      have hlw := x26.out.lt
      have hdf : (W6.setCell ⟨w.heap.size + 1 + 1, 0, none⟩ (.bool true)).heap[W2.heap.size + 3]? = some (.deferred (some [])) := (Below.heap_setCell _ _ _ _ (by simp; omega)).trans hd6.out
      refine leave_marks (N := w.heap.size) ⟨W2.heap.size + 3, rfl, by omega, hdf, by simp, trivial⟩ fun W7 hg => ?_
      have rr := hg.cell (x26.out.set (.bool true)).cell
      exact ⟨.bool true, by simp [results, Try.results12, go_sem, rr], rfl, hg.below (Nat.le_refl _) (hb6.out.setCell (p := ⟨w.heap.size + 1 + 1, 0, none⟩) (by simp; omega) _) (Nat.le_refl _)⟩
    case stop => exact fun cd i W' _ h => h.elim
end Go.Proofs.Ytccdbelngjonaaa
