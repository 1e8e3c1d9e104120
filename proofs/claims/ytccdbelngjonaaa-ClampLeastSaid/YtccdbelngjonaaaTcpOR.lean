/- Options of segments (the reference): walks of Option, Places, MSS. -/
import Derived.Test.YtccdbelngjonaaaTcpO
import Derived.Test.YtccdbelngjonaaaTcpPR
import Derived.Test.YtccdbelngjonaaaOwn
set_option linter.unusedVariables false
namespace Go.Proofs.Ytccdbelngjonaaa
open Go.RowKit

set_option maxHeartbeats 2000000 in
theorem RefOption_any (A : Option Addr) (n c : Nat) (bs : List Int) (a : Nat) (w : World) (h : RB w A n c bs) (hn : n ≤ 100000) (ha : a ≤ 100000) :
    Calls Try.prog 57 #[.slice A n c, .int .i64 (a : Int)] w fun e w' => e = .returned (.int .i64 (optL bs a : Int)) ∧ w = w' := by
  have hlen := h.len
  by_cases hlt : a < n
  · obtain ⟨b, off, rfl, hlb, hc⟩ := h.mem (by omega)
    have hop : optL bs a = if bs[a]?.getD 0 ≤ 1 then 1 else if n ≤ a + 1 then 0 else if bs[a + 1]?.getD 0 < 2 then 0 else if (n : Int) - a < bs[a + 1]?.getD 0 then 0 else (bs[a + 1]?.getD 0).toNat := by
      unfold optL; rw [hlen, if_neg (by omega)]
    have hc0 := hc a hlt
    have hb0 := h.byt.get a
    have hb1 := h.byt.get (a + 1)
    have hnc := h.nc
    have hlt' : (a : Int) < n := by omega
    generalize bs[a]?.getD 0 = x at *
    by_cases x1 : x ≤ 1
    · have h1 := Lib.hid (show optL bs a = 1 by rw [hop, if_pos x1])
      clear h hc hlen hop
      go_enter Try.func57, Try.ntmps57
      go_wp2
      go_ret
      exact ⟨by rw [h1.out]; rfl, rfl⟩
    · by_cases hend : n ≤ a + 1
      · have h1 := Lib.hid (show optL bs a = 0 by rw [hop, if_neg x1, if_pos hend])
        have hend' : (n : Int) ≤ (a : Int) + 1 := by omega
        clear h hc hlen hop
        go_enter Try.func57, Try.ntmps57
        go_wp2
        go_ret
        exact ⟨by rw [h1.out]; rfl, rfl⟩
      · have hc1 := hc (a + 1) (by omega)
        have hend' : ¬ (n : Int) ≤ (a : Int) + 1 := by omega
        have hend2 : (a : Int) + 1 < (n : Int) := by omega
        have hend3 : a + 1 < n := by omega
        generalize bs[a + 1]?.getD 0 = y at *
        by_cases y2 : y < 2
        · have h1 := Lib.hid (show optL bs a = 0 by rw [hop, if_neg x1, if_neg hend, if_pos y2])
          clear h hc hlen hop
          go_enter Try.func57, Try.ntmps57
          go_wp2
          go_ret
          exact ⟨by rw [h1.out]; rfl, rfl⟩
        · by_cases y3 : (n : Int) - a < y
          · have h1 := Lib.hid (show optL bs a = 0 by rw [hop, if_neg x1, if_neg hend, if_neg y2, if_pos y3])
            clear h hc hlen hop
            go_enter Try.func57, Try.ntmps57
            go_wp2
            go_ret
            exact ⟨by rw [h1.out]; rfl, rfl⟩
          · have h1 := Lib.hid (show (optL bs a : Int) = y by rw [hop, if_neg x1, if_neg hend, if_neg y2, if_neg y3]; omega)
            clear h hc hlen hop
            go_enter Try.func57, Try.ntmps57
            go_wp2
            go_ret
            exact ⟨by rw [h1.out]; rfl, rfl⟩
  · have h1 := Lib.hid (show optL bs a = 0 by unfold optL; rw [if_pos (by omega)])
    have hge : (n : Int) ≤ (a : Int) := by omega
    clear h hlen
    go_enter Try.func57, Try.ntmps57
    go_wp2
    go_ret
    exact ⟨by rw [h1.out]; rfl, rfl⟩

def placeV (l : List Nat) : List Value := l.map fun (p : Nat) => .int .i64 (p : Int)
set_option maxRecDepth 100000 in
set_option maxHeartbeats 4000000 in
theorem RefPlaces_any (A : Option Addr) (n c : Nat) (bs : List Int) (w : World) (h : RB w A n c bs) (hn : n ≤ 100000) :
    Calls Try.prog 55 #[.slice A n c] w fun e w' => ∃ A2 m c2, e = .returned (.slice A2 m c2) ∧ m = (places bs).length ∧ OG w' w.heap.size 3 1 A2 m c2 (placeV (places bs)) ∧ Below w.heap.size w w' := by
  have hlen := h.len
  have hop := Lib.hid (fun a W (hW : Below w.heap.size w W) (ha : a ≤ 100000) => RefOption_any A n c bs a W (h.below hW) hn ha)
  go_enter Try.func55, Try.ntmps55
  go_wp2
  go_loopw [3, 4] (fun v i wr => ∃ (a f : Nat) (pre : List Nat) (A3 : Option Addr) (c3 : Nat), places bs = pre ++ placesF bs f a ∧ a ≤ n ∧ n < a + f ∧ i = .int .i64 (a : Int) ∧ v = .slice A3 pre.length c3 ∧ OG wr w.heap.size 3 1 A3 pre.length c3 (placeV pre) ∧ Below w.heap.size w wr) (fun _ i _ => n + 2 - (intOf i).toNat)
  case atStart => exact ⟨0, bs.length + 1, [], none, 0, rfl, by omega, by omega, rfl, rfl, OG.nil _ _ _ _, Below.refl _ _⟩
  case round =>
    obtain ⟨a, f, pre, A3, c3, hpl, han, hf, rfl, rfl, ho3, hB3⟩ := hrel
    obtain ⟨f, rfl⟩ : ∃ g, f = g + 1 := ⟨f - 1, by omega⟩
    have hpF := show placesF bs (f + 1) a = if optL bs a = 0 then [] else if bs[a]?.getD 0 = 0 then [a] else a :: placesF bs f (a + optL bs a) from rfl
    have hprl : pre.length ≤ 100001 := by
      have h1 := placesF_length bs (bs.length + 1) 0
      have h2 : (places bs).length = pre.length + (placesF bs (f + 1) a).length := by rw [hpl]; simp
      unfold places at h2
      omega
    rcases Nat.eq_zero_or_pos (optL bs a) with h0 | h0
    · have hfin := Lib.hid (show pre.length = (places bs).length by rw [hpl, hpF, if_pos h0]; simp)
      have hok := ho3
      rw [show pre = places bs by rw [hpl, hpF, if_pos h0]; simp] at hok
      rw [← hfin.out] at hok
      replace hok := Lib.hid hok
      have hO := Lib.hid (hop.out a wr hB3 (by omega))
      rw [h0] at hO
      have hB5 := Lib.hid hB3
      generalize pre.length = L at *
      clear hB3 ho3 hpF hpl h h0
      go_wp2_with (first
        | (go_at_call 57; refine (hO.out).mono ?_; rintro e w' ⟨rfl, rfl⟩)
        | fail)
      go_wp2
      go_ret
      exact ⟨_, _, _, rfl, hfin.out, hok.out, hB5.out⟩
    · have hle := optL_le bs a
      have hlt : a < n := by omega
      obtain ⟨b, off, rfl, hlb, hc⟩ := h.mem (by omega)
      have hnc := h.nc
      have hO1 := Lib.hid (hop.out a wr hB3 (by omega))
      have hlt' : (a : Int) < n := by omega
      have hB4 := hB3.alloc hB3.size (.cells #[.int .i64 (a : Int)] 3)
      have ho4 := Lib.hid (ho3.alloc (.cells #[.int .i64 (a : Int)] 3))
      have hcell0 := Lib.hid (fun W (hW : Below w.heap.size w W) => (hW.cell (p := ⟨b, off + a, none⟩) hlb).trans (hc a hlt))
      have hcl := Lib.hid (fun j u (hu : [Value.int .i64 (a : Int)][j]? = some u) => show (wr.alloc (.cells #[.int .i64 (a : Int)] 3)).cell? ⟨wr.heap.size, j, none⟩ = some u by rw [World.cell?_alloc_at _ _ _ _ rfl, List.getElem?_toArray]; exact hu)
      have hsz4 := hB4.size
      generalize hxx : bs[a]?.getD 0 = x at *
      generalize hL : pre.length = L at *
      generalize hol : optL bs a = s at *
      have hs0 : (0 : Int) < s := by omega
      have hsn : s ≠ 0 := by omega
      replace hol := Lib.hid hol
      replace hL := Lib.hid hL
      replace hpF := Lib.hid hpF
      replace hpl := Lib.hid hpl
      replace h := Lib.hid h
      replace hB4 := Lib.hid hB4
      clear hB3 ho3 hc hxx
      by_cases hx : x = 0
      · subst hx
        go_wp2_with (first
          | (go_at_call 57; refine (hO1.out).mono ?_; rintro e w' ⟨rfl, rfl⟩)
          | (at_builtin; refine wpList_append_og _ rfl 81 3 (.tmp 14) (.tmp 16) rfl (.int .i64 0) 1 8 Try.underlying81 info_intz rfl (by decide) rfl rfl ho4.out [.int .i64 (a : Int)] rfl hcl.out (by simp [Value.oneCell']) (by omega) (by omega) hsz4 ?_; intro A5 c5 w5 ho5 hg5; have hB5 := Lib.hid (hB4.out.grown hg5 hB4.out.size (fun k hk => (ho4.out.blk hk).1)); have hx5 := hcell0.out _ hB5.out; replace ho5 := Lib.hid ho5; clear hg5)
          | fail)
        have hpe : places bs = pre ++ [a] := by rw [hpl.out, hpF.out, if_neg hsn]; simp
        have hfin := Lib.hid (show L + 1 = (places bs).length by rw [hpe, ← hL.out]; simp)
        have hok : OG w5 w.heap.size 3 1 A5 (L + 1) c5 (placeV (places bs)) := by rw [hpe]; have := ho5.out; simpa [placeV] using this
        replace hok := Lib.hid hok
        go_wp2
        go_ret
        exact ⟨_, _, _, rfl, hfin.out, hok.out, hB5.out⟩
      · go_wp2_with (first
          | (go_at_call 57; refine (hO1.out).mono ?_; rintro e w' ⟨rfl, rfl⟩)
          | (at_builtin; refine wpList_append_og _ rfl 81 3 (.tmp 14) (.tmp 16) rfl (.int .i64 0) 1 8 Try.underlying81 info_intz rfl (by decide) rfl rfl ho4.out [.int .i64 (a : Int)] rfl hcl.out (by simp [Value.oneCell']) (by omega) (by omega) hsz4 ?_; intro A5 c5 w5 ho5 hg5; have hB5 := Lib.hid (hB4.out.grown hg5 hB4.out.size (fun k hk => (ho4.out.blk hk).1)); have hx5 := hcell0.out _ hB5.out; have hO2 := hop.out a _ hB5.out (by omega); rw [hol.out] at hO2; replace hO1 := 0; replace hO2 := Lib.hid hO2; replace ho5 := Lib.hid ho5; clear hg5)
          | (go_at_call 57; refine (hO2.out).mono ?_; rintro e w' ⟨rfl, rfl⟩)
          | fail)
        go_roundw
        case rel =>
          refine ⟨a + s, f, pre ++ [a], A5, c5, ?_, by omega, by omega, by go_num, by rw [List.length_append, hL.out]; rfl, ?_, hB5.out⟩
          · rw [hpl.out, hpF.out, if_neg hsn, if_neg hx]; simp
          · have := ho5.out
            rw [List.length_append, hL.out]
            simpa [placeV] using this
        case measure => simp [intOf]; omega

theorem en_TOption (args : Array Value) (w : World) : (callFunc 57 args).run Try.prog w = .ok (.enter 57 args) w := enters Try.func57 (by kernel_rfl) (by kernel_rfl) args w
/-- The greatest size that options tell. -/
def mssF (bs : List Int) : List Nat → Int × Int × Bool
  | [] => (0, 0, false)
  | a :: l => if bs[a]?.getD 0 = 2 ∧ optL bs a = 4 then ((getV bs (a + 2) 2).1, a, true) else mssF bs l
def mssT (bs : List Int) : Int × Int × Bool := mssF bs (places bs)
def mssV (r : Int × Int × Bool) : Value := .tuple #[.int .i64 r.1, .int .i64 r.2.1, .bool r.2.2]

set_option maxRecDepth 100000 in
set_option maxHeartbeats 4000000 in
theorem RefMSS_any (m : TcpP) (Ao : Option Addr) (no co : Nat) (A : Option Addr) (n c : Nat) (w : World) (h : RB w Ao no co m.opts) (hn : no ≤ 100000) :
    Calls Try.prog 59 #[.agg (cellsT m Ao no co A n c)] w fun e w' => e = .returned (mssV (mssT m.opts)) ∧ Below w.heap.size w w' := by
  have hlen := h.len
  have hb0 := Lib.hid ((Below.refl _ w).alloc (Nat.le_refl _) (.cells (cellsT m Ao no co A n c) 73))
  have hk0 := Lib.hid (Blk.new w (cellsT m Ao no co A n c) 73)
  have hop := Lib.hid (fun a W (hW : Below w.heap.size w W) (ha : a ≤ 100000) => RefOption_any Ao no co m.opts a W (h.below hW) hn ha)
  have hNum := Lib.hid (fun a s W (hW : Below w.heap.size w W) => RefTcpNum_any Ao no co m.opts a s W (h.below hW) hn)
  have hPl := Lib.hid (fun W (hW : Below w.heap.size w W) => RefPlaces_any Ao no co m.opts W (h.below hW) hn)
  have hms := Lib.hid (show mssT m.opts = mssF m.opts (places m.opts) from rfl)
  have hpl := Lib.hid (fun p (hp : p ∈ places m.opts) => places_lt hp)
  have hplen := Lib.hid (show (places m.opts).length ≤ 100001 by have := placesF_length m.opts (m.opts.length + 1) 0; unfold places; omega)
  generalize places m.opts = ps at *
  generalize mssT m.opts = R at *
  replace h := Lib.hid h
  go_enter Try.func59, Try.ntmps59
  go_wp2_with (first
    | (go_at_call 55; refine (hPl.out _ hb0.out).mono ?_; rintro e w1 ⟨A2, k, c2, rfl, rfl, ho1, hB1⟩; have hk1 := Lib.hid (hk0.out.to hB1); have hBt1 := Lib.hid (hb0.out.trans (hB1.mono hb0.out.size)); replace ho1 := Lib.hid ho1; replace hB1 := 0)
    | fail)
  go_loopw [6] (fun i wr => ∃ k : Nat, k ≤ ps.length ∧ i = .int .i64 k ∧ R = mssF m.opts (ps.drop k) ∧ Blk wr w.heap.size (cellsT m Ao no co A n c) 73 ∧ OG wr w.heap.size 3 1 A2 ps.length c2 (placeV ps) ∧ Below w.heap.size w wr) (fun i _ => ps.length + 1 - (intOf i).toNat)
  case atStart => exact ⟨0, Nat.zero_le _, rfl, hms.out, hk1.out, (ho1.out).mono hb0.out.size, hBt1.out⟩
  case round =>
    obtain ⟨k, hk, rfl, hR, hk3, ho3, hB3⟩ := hrel
    by_cases hlt : k < ps.length
    · obtain ⟨a, ha⟩ : ∃ a, ps[k]? = some a := ⟨_, List.getElem?_eq_getElem hlt⟩
      obtain ⟨hp1, hp2, hp3⟩ := hpl.out a (List.mem_of_getElem? ha)
      have hdr : ps.drop k = a :: ps.drop (k + 1) := by
        rw [List.drop_eq_getElem_cons hlt]
        rw [List.getElem?_eq_getElem hlt] at ha
        rw [Option.some.inj ha]
      rw [hdr] at hR
      rw [hlen] at hp3 hp1
      obtain ⟨b, off, e', hlb, hc⟩ := h.out.mem (by omega)
      obtain ⟨g, e2, hg0, hg1, hnc2, hcm2, hcg⟩ := ho3.cells (by omega) (by decide)
      subst e'
      subst e2
      have hx0 := hc a hp3
      have hnc := h.out.nc
      have hb1 := h.out.byt.get a
      have hRd : mssF m.opts (a :: ps.drop (k + 1)) = if m.opts[a]?.getD 0 = 2 ∧ optL m.opts a = 4 then ((getV m.opts (a + 2) 2).1, (a : Int), true) else mssF m.opts (ps.drop (k + 1)) := rfl
      rw [hRd] at hR
      have hpa : (placeV ps)[k]? = some (.int .i64 (a : Int)) := by unfold placeV; rw [List.getElem?_map, ha]; rfl
      have hC1 := Lib.hid (show ∀ W, (fun W => Blk W w.heap.size (cellsT m (some ⟨b, off, none⟩) no co A n c) 73 ∧ OG W w.heap.size 3 1 (some ⟨g, 0, none⟩) ps.length c2 (placeV ps) ∧ Below w.heap.size w W) W → (W.cell? ⟨w.heap.size, 8, none⟩ = some (.slice (some ⟨b, off, none⟩) no co) ∧ W.cell? ⟨b, off + a, none⟩ = some (.int .u8 (m.opts[a]?.getD 0)) ∧ W.cell? ⟨g, k, none⟩ = some (.int .i64 (a : Int))) from fun W hS => by
        obtain ⟨g', e2, _, _, _, _, hcg⟩ := hS.2.1.cells (by omega) (by decide)
        cases e2
        exact ⟨hS.1.cell 8 _ rfl, (hS.2.2.cell (p := ⟨b, off + a, none⟩) hlb).trans hx0, (hcg k (by omega)).trans hpa⟩)
      have hK := Lib.hid (show ∀ W W', (fun W => Blk W w.heap.size (cellsT m (some ⟨b, off, none⟩) no co A n c) 73 ∧ OG W w.heap.size 3 1 (some ⟨g, 0, none⟩) ps.length c2 (placeV ps) ∧ Below w.heap.size w W) W → Below W.heap.size W W' → (fun W => Blk W w.heap.size (cellsT m (some ⟨b, off, none⟩) no co A n c) 73 ∧ OG W w.heap.size 3 1 (some ⟨g, 0, none⟩) ps.length c2 (placeV ps) ∧ Below w.heap.size w W) W' from fun W W' ⟨a1, a2, a3⟩ hb => ⟨a1.to hb, a2.below hb, a3.trans (hb.mono a3.size)⟩)
      have hO := Lib.hid (fun W (hW : Below w.heap.size w W) => toB (hop.out a W hW (by omega)))
      have hN := Lib.hid (fun W (hW : Below w.heap.size w W) => toB (hNum.out ((a : Int) + 2) 2 W hW))
      have hS0 : (fun W => Blk W w.heap.size (cellsT m (some ⟨b, off, none⟩) no co A n c) 73 ∧ OG W w.heap.size 3 1 (some ⟨g, 0, none⟩) ps.length c2 (placeV ps) ∧ Below w.heap.size w W) wr.drew := hK.out wr _ ⟨hk3, ho3, hB3⟩ (Below.refl _ _).drew
      have hps : ps.length ≤ 100001 := hplen.out
      have hak : (a : Int) < no := by omega
      have hkp : (k : Int) < (ps.length : Int) := by omega
      have hwa2 : IntKind.i64.wrap ((a : Int) + 2) = (a : Int) + 2 := by rw [IntKind.wrap_i64]; omega
      generalize m.opts[a]?.getD 0 = x at *
      generalize hol : optL m.opts a = s at *
      replace hol := Lib.hid hol
      generalize (getV m.opts ((a : Int) + 2) 2).1 = v at *
      clear hc hcg hk3 ho3 hRd
      replace hB3 := Lib.hid hB3
      by_cases hx : x = 2
      · subst hx
        by_cases hs : s = 4
        · have hR2 := Lib.hid (hR.trans (if_pos ⟨rfl, hs⟩))
          subst hs
          replace hR := 0
          go_wp2
          refine wp_region_tame (fun W => Blk W w.heap.size (cellsT m (some ⟨b, off, none⟩) no co A n c) 73 ∧ OG W w.heap.size 3 1 (some ⟨g, 0, none⟩) ps.length c2 (placeV ps) ∧ Below w.heap.size w W) (by kernel_rfl) (by kernel_rfl) hS0 ?_
          repeat (first
            | (refine tameL_skip rfl ?_; simp only [Act.put, List.setIfInBounds_toArray, List.set_cons_zero, List.set_cons_succ])
            | (refine tameL_call2 (v := .int .i64 (s : Int)) rfl 57 (.tmp 27) (.tmp 31) _ rfl en_TOption rfl rfl ?_ ?_; exact fun W hS => (hO.out W hS.2.2).mono fun e W' ⟨he, hb⟩ => ⟨he, hK.out W W' hS hb⟩; simp only [Act.put, List.setIfInBounds_toArray, List.set_cons_zero, List.set_cons_succ])
            | (refine tameL_call2 (v := .int .i64 (4 : Int)) rfl 57 (.tmp 27) (.tmp 31) _ rfl en_TOption rfl rfl ?_ ?_; exact fun W hS => (hO.out W hS.2.2).mono fun e W' ⟨he, hb⟩ => ⟨he, hK.out W W' hS hb⟩; simp only [Act.put, List.setIfInBounds_toArray, List.set_cons_zero, List.set_cons_succ])
            | (refine tameL_call3 (v := .int .i64 v) rfl 91 (.tmp 36) (.tmp 41) (.const (.int .i64 2)) _ rfl en_RTcpNum rfl rfl rfl ?_ ?_; exact fun W hS => (hN.out W hS.2.2).mono fun e W' ⟨he, hb⟩ => ⟨he, hK.out W W' hS hb⟩; simp only [Act.put, List.setIfInBounds_toArray, List.set_cons_zero, List.set_cons_succ])
            | (refine tameL_val (v := ?_) rfl (fun W hS => ?_) ?_; rotate_left; (· (obtain ⟨g0, g1, g2⟩ := hC1.out W hS; clear hS; go_simp; try with_reducible rfl)); simp only [Act.put, List.setIfInBounds_toArray, List.set_cons_zero, List.set_cons_succ]))
          refine tameL_nil fun W hS => ?_
          go_wp2
          have hS1 : (fun W => Blk W w.heap.size (cellsT m (some ⟨b, off, none⟩) no co A n c) 73 ∧ OG W w.heap.size 3 1 (some ⟨g, 0, none⟩) ps.length c2 (placeV ps) ∧ Below w.heap.size w W) W.drew := hK.out W _ hS (Below.refl _ _).drew
          refine wp_region_tame (fun W => Blk W w.heap.size (cellsT m (some ⟨b, off, none⟩) no co A n c) 73 ∧ OG W w.heap.size 3 1 (some ⟨g, 0, none⟩) ps.length c2 (placeV ps) ∧ Below w.heap.size w W) (by kernel_rfl) (by kernel_rfl) hS1 ?_
          repeat (first
            | (refine tameL_skip rfl ?_; simp only [Act.put, List.setIfInBounds_toArray, List.set_cons_zero, List.set_cons_succ])
            | (refine tameL_call2 (v := .int .i64 (s : Int)) rfl 57 (.tmp 27) (.tmp 31) _ rfl en_TOption rfl rfl ?_ ?_; exact fun W hS => (hO.out W hS.2.2).mono fun e W' ⟨he, hb⟩ => ⟨he, hK.out W W' hS hb⟩; simp only [Act.put, List.setIfInBounds_toArray, List.set_cons_zero, List.set_cons_succ])
            | (refine tameL_call2 (v := .int .i64 (4 : Int)) rfl 57 (.tmp 27) (.tmp 31) _ rfl en_TOption rfl rfl ?_ ?_; exact fun W hS => (hO.out W hS.2.2).mono fun e W' ⟨he, hb⟩ => ⟨he, hK.out W W' hS hb⟩; simp only [Act.put, List.setIfInBounds_toArray, List.set_cons_zero, List.set_cons_succ])
            | (refine tameL_call3 (v := .int .i64 v) rfl 91 (.tmp 36) (.tmp 41) (.const (.int .i64 2)) _ rfl en_RTcpNum rfl rfl rfl ?_ ?_; exact fun W hS => (hN.out W hS.2.2).mono fun e W' ⟨he, hb⟩ => ⟨he, hK.out W W' hS hb⟩; simp only [Act.put, List.setIfInBounds_toArray, List.set_cons_zero, List.set_cons_succ])
            | (refine tameL_val (v := ?_) rfl (fun W hS => ?_) ?_; rotate_left; (· (obtain ⟨g0, g1, g2⟩ := hC1.out W hS; clear hS; go_simp; try with_reducible rfl)); simp only [Act.put, List.setIfInBounds_toArray, List.set_cons_zero, List.set_cons_succ]))
          refine tameL_nil fun W2 hS2 => ?_
          go_wp2
          exact bodyPost_ret (v := mssV (v, (a : Int), true)) (by simp [results, Try.results59, go_sem, mssV]) rfl ⟨by rw [hR2.out], hS2.2.2⟩
        · have hR2 := Lib.hid (hR.trans (if_neg (fun h => hs h.2)))
          have hs4 : ((s : Int) == 4) = false := by simp; omega
          replace hR := 0
          go_wp2
          refine wp_region_tame (fun W => Blk W w.heap.size (cellsT m (some ⟨b, off, none⟩) no co A n c) 73 ∧ OG W w.heap.size 3 1 (some ⟨g, 0, none⟩) ps.length c2 (placeV ps) ∧ Below w.heap.size w W) (by kernel_rfl) (by kernel_rfl) hS0 ?_
          repeat (first
            | (refine tameL_skip rfl ?_; simp only [Act.put, List.setIfInBounds_toArray, List.set_cons_zero, List.set_cons_succ])
            | (refine tameL_call2 (v := .int .i64 (s : Int)) rfl 57 (.tmp 27) (.tmp 31) _ rfl en_TOption rfl rfl ?_ ?_; exact fun W hS => (hO.out W hS.2.2).mono fun e W' ⟨he, hb⟩ => ⟨he, hK.out W W' hS hb⟩; simp only [Act.put, List.setIfInBounds_toArray, List.set_cons_zero, List.set_cons_succ])
            | (refine tameL_call2 (v := .int .i64 (4 : Int)) rfl 57 (.tmp 27) (.tmp 31) _ rfl en_TOption rfl rfl ?_ ?_; exact fun W hS => (hO.out W hS.2.2).mono fun e W' ⟨he, hb⟩ => ⟨he, hK.out W W' hS hb⟩; simp only [Act.put, List.setIfInBounds_toArray, List.set_cons_zero, List.set_cons_succ])
            | (refine tameL_call3 (v := .int .i64 v) rfl 91 (.tmp 36) (.tmp 41) (.const (.int .i64 2)) _ rfl en_RTcpNum rfl rfl rfl ?_ ?_; exact fun W hS => (hN.out W hS.2.2).mono fun e W' ⟨he, hb⟩ => ⟨he, hK.out W W' hS hb⟩; simp only [Act.put, List.setIfInBounds_toArray, List.set_cons_zero, List.set_cons_succ])
            | (refine tameL_val (v := ?_) rfl (fun W hS => ?_) ?_; rotate_left; (· (obtain ⟨g0, g1, g2⟩ := hC1.out W hS; clear hS; go_simp; try with_reducible rfl)); simp only [Act.put, List.setIfInBounds_toArray, List.set_cons_zero, List.set_cons_succ]))
          refine tameL_nil fun W hS => ?_
          go_wp2
          go_roundw
          case rel => exact ⟨k + 1, by omega, by go_num, hR2.out, hS.1, hS.2.1, hS.2.2⟩
          case measure => simp [intOf]; omega
      · have hR2 := Lib.hid (hR.trans (if_neg (fun h => hx h.1)))
        have hx2 : (x == 2) = false := by simpa using hx
        replace hR := 0
        go_wp2
        refine wp_region_tame (fun W => Blk W w.heap.size (cellsT m (some ⟨b, off, none⟩) no co A n c) 73 ∧ OG W w.heap.size 3 1 (some ⟨g, 0, none⟩) ps.length c2 (placeV ps) ∧ Below w.heap.size w W) (by kernel_rfl) (by kernel_rfl) hS0 ?_
        repeat (first
          | (refine tameL_skip rfl ?_; simp only [Act.put, List.setIfInBounds_toArray, List.set_cons_zero, List.set_cons_succ])
          | (refine tameL_call2 (v := .int .i64 (s : Int)) rfl 57 (.tmp 27) (.tmp 31) _ rfl en_TOption rfl rfl ?_ ?_; exact fun W hS => (hO.out W hS.2.2).mono fun e W' ⟨he, hb⟩ => ⟨he, hK.out W W' hS hb⟩; simp only [Act.put, List.setIfInBounds_toArray, List.set_cons_zero, List.set_cons_succ])
          | (refine tameL_call2 (v := .int .i64 (4 : Int)) rfl 57 (.tmp 27) (.tmp 31) _ rfl en_TOption rfl rfl ?_ ?_; exact fun W hS => (hO.out W hS.2.2).mono fun e W' ⟨he, hb⟩ => ⟨he, hK.out W W' hS hb⟩; simp only [Act.put, List.setIfInBounds_toArray, List.set_cons_zero, List.set_cons_succ])
          | (refine tameL_call3 (v := .int .i64 v) rfl 91 (.tmp 36) (.tmp 41) (.const (.int .i64 2)) _ rfl en_RTcpNum rfl rfl rfl ?_ ?_; exact fun W hS => (hN.out W hS.2.2).mono fun e W' ⟨he, hb⟩ => ⟨he, hK.out W W' hS hb⟩; simp only [Act.put, List.setIfInBounds_toArray, List.set_cons_zero, List.set_cons_succ])
          | (refine tameL_val (v := ?_) rfl (fun W hS => ?_) ?_; rotate_left; (· (obtain ⟨g0, g1, g2⟩ := hC1.out W hS; clear hS; go_simp; try with_reducible rfl)); simp only [Act.put, List.setIfInBounds_toArray, List.set_cons_zero, List.set_cons_succ]))
        refine tameL_nil fun W hS => ?_
        go_wp2
        go_roundw
        case rel => exact ⟨k + 1, by omega, by go_num, hR2.out, hS.1, hS.2.1, hS.2.2⟩
        case measure => simp [intOf]; omega
    · have hke : k = ps.length := by omega
      subst hke
      have hR2 := Lib.hid (show R = (0, 0, false) by rw [hR, List.drop_length]; rfl)
      replace hR := 0
      replace hk3 := Lib.hid hk3
      replace ho3 := Lib.hid ho3
      go_wp2
      exact bodyPost_ret (v := mssV (0, 0, false)) (by simp [results, Try.results59, go_sem, mssV]) rfl ⟨by rw [hR2.out], hB3⟩
end Go.Proofs.Ytccdbelngjonaaa
