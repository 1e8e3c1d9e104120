/- Options of segments (the reference): walks of Option, Places, MSS. -/
import Derived.Test.YtipigcpenmcaoaaTcpO
import Derived.Test.YtipigcpenmcaoaaAlc
import Derived.Test.YtipigcpenmcaoaaOwn
set_option linter.unusedVariables false
namespace Go.Proofs.Ytipigcpenmcaoaa
open Go.RowKit

set_option maxHeartbeats 2000000 in
theorem RefOption_any (A : Option Addr) (n c : Nat) (bs : List Int) (a : Nat) (w : World) (h : RB w A n c bs) (hn : n ≤ 100000) (ha : a ≤ 100000) :
    Calls Try.prog 61 #[.slice A n c, .int .i64 (a : Int)] w fun e w' => e = .returned (.int .i64 (optL bs a : Int)) ∧ w = w' := by
  have hlen := h.len
  by_cases hlt : a < n
  · obtain ⟨b, off, rfl, hlb, hc⟩ := h.mem (by omega)
    have hop : optL bs a = if bs[a]?.getD 0 ≤ 1 then 1 else if n ≤ a + 1 then 0 else if bs[a + 1]?.getD 0 < 2 then 0 else if (n : Int) - a < bs[a + 1]?.getD 0 then 0 else (bs[a + 1]?.getD 0).toNat := by
      unfold optL; rw [hlen, if_neg (by omega)]
    have hc0 := hc a hlt
    have hb0 := h.byt.get a
    have hb1 := h.byt.get (a + 1)
    have hnc := h.nc
    have hlt' : (a : Int) < n := by omega
    generalize bs[a]?.getD 0 = x at *
    by_cases x1 : x ≤ 1
    · have h1 := Lib.hid (show optL bs a = 1 by rw [hop, if_pos x1])
      clear h hc hlen hop
      go_enter Try.func61, Try.ntmps61
      go_wp2
      go_ret
      exact ⟨by rw [h1.out]; rfl, rfl⟩
    · by_cases hend : n ≤ a + 1
      · have h1 := Lib.hid (show optL bs a = 0 by rw [hop, if_neg x1, if_pos hend])
        have hend' : (n : Int) ≤ (a : Int) + 1 := by omega
        clear h hc hlen hop
        go_enter Try.func61, Try.ntmps61
        go_wp2
        go_ret
        exact ⟨by rw [h1.out]; rfl, rfl⟩
      · have hc1 := hc (a + 1) (by omega)
        have hend' : ¬ (n : Int) ≤ (a : Int) + 1 := by omega
        have hend2 : (a : Int) + 1 < (n : Int) := by omega
        have hend3 : a + 1 < n := by omega
        generalize bs[a + 1]?.getD 0 = y at *
        by_cases y2 : y < 2
        · have h1 := Lib.hid (show optL bs a = 0 by rw [hop, if_neg x1, if_neg hend, if_pos y2])
          clear h hc hlen hop
          go_enter Try.func61, Try.ntmps61
          go_wp2
          go_ret
          exact ⟨by rw [h1.out]; rfl, rfl⟩
        · by_cases y3 : (n : Int) - a < y
          · have h1 := Lib.hid (show optL bs a = 0 by rw [hop, if_neg x1, if_neg hend, if_neg y2, if_pos y3])
            clear h hc hlen hop
            go_enter Try.func61, Try.ntmps61
            go_wp2
            go_ret
            exact ⟨by rw [h1.out]; rfl, rfl⟩
          · have h1 := Lib.hid (show (optL bs a : Int) = y by rw [hop, if_neg x1, if_neg hend, if_neg y2, if_neg y3]; omega)
            clear h hc hlen hop
            go_enter Try.func61, Try.ntmps61
            go_wp2
            go_ret
            exact ⟨by rw [h1.out]; rfl, rfl⟩
  · have h1 := Lib.hid (show optL bs a = 0 by unfold optL; rw [if_pos (by omega)])
    have hge : (n : Int) ≤ (a : Int) := by omega
    clear h hlen
    go_enter Try.func61, Try.ntmps61
    go_wp2
    go_ret
    exact ⟨by rw [h1.out]; rfl, rfl⟩

def placeV (l : List Nat) : List Value := l.map fun (p : Nat) => .int .i64 (p : Int)
set_option maxRecDepth 100000 in
set_option maxHeartbeats 4000000 in
theorem RefPlaces_any (A : Option Addr) (n c : Nat) (bs : List Int) (w : World) (h : RB w A n c bs) (hn : n ≤ 100000) :
    Calls Try.prog 60 #[.slice A n c] w fun e w' => ∃ A2 m c2, e = .returned (.slice A2 m c2) ∧ m = (places bs).length ∧ OG w' w.heap.size 3 1 A2 m c2 (placeV (places bs)) ∧ Below w.heap.size w w' := by
  have hlen := h.len
  have hop := Lib.hid (fun a W (hW : Below w.heap.size w W) (ha : a ≤ 100000) => RefOption_any A n c bs a W (h.below hW) hn ha)
  go_enter Try.func60, Try.ntmps60
  go_wp2
  go_loopw [3, 4] (fun v i wr => ∃ (a f : Nat) (pre : List Nat) (A3 : Option Addr) (c3 : Nat), places bs = pre ++ placesF bs f a ∧ a ≤ n ∧ n < a + f ∧ i = .int .i64 (a : Int) ∧ v = .slice A3 pre.length c3 ∧ OG wr w.heap.size 3 1 A3 pre.length c3 (placeV pre) ∧ Below w.heap.size w wr) (fun _ i _ => n + 2 - (intOf i).toNat)
  case atStart => exact ⟨0, bs.length + 1, [], none, 0, rfl, by omega, by omega, rfl, rfl, OG.nil _ _ _ _, Below.refl _ _⟩
  case round =>
    obtain ⟨a, f, pre, A3, c3, hpl, han, hf, rfl, rfl, ho3, hB3⟩ := hrel
    obtain ⟨f, rfl⟩ : ∃ g, f = g + 1 := ⟨f - 1, by omega⟩
    have hpF := show placesF bs (f + 1) a = if optL bs a = 0 then [] else if bs[a]?.getD 0 = 0 then [a] else a :: placesF bs f (a + optL bs a) from rfl
    have hprl : pre.length ≤ 100001 := by
      have h1 := placesF_length bs (bs.length + 1) 0
      have h2 : (places bs).length = pre.length + (placesF bs (f + 1) a).length := by rw [hpl]; simp
      unfold places at h2
      omega
    rcases Nat.eq_zero_or_pos (optL bs a) with h0 | h0
    · have hfin := Lib.hid (show pre.length = (places bs).length by rw [hpl, hpF, if_pos h0]; simp)
      have hok := ho3
      rw [show pre = places bs by rw [hpl, hpF, if_pos h0]; simp] at hok
      rw [← hfin.out] at hok
      replace hok := Lib.hid hok
      have hO := Lib.hid (hop.out a wr hB3 (by omega))
      rw [h0] at hO
      have hB5 := Lib.hid hB3
      generalize pre.length = L at *
      clear hB3 ho3 hpF hpl h h0
      go_wp2_with (first
        | (go_at_call 61; refine (hO.out).mono ?_; rintro e w' ⟨rfl, rfl⟩)
        | fail)
      go_wp2
      go_ret
      exact ⟨_, _, _, rfl, hfin.out, hok.out, hB5.out⟩
    · have hle := optL_le bs a
      have hlt : a < n := by omega
      obtain ⟨b, off, rfl, hlb, hc⟩ := h.mem (by omega)
      have hnc := h.nc
      have hO1 := Lib.hid (hop.out a wr hB3 (by omega))
      have hlt' : (a : Int) < n := by omega
      have hB4 := hB3.alloc hB3.size (.cells #[.int .i64 (a : Int)] 3)
      have ho4 := Lib.hid (ho3.alloc (.cells #[.int .i64 (a : Int)] 3))
      have hcell0 := Lib.hid (fun W (hW : Below w.heap.size w W) => (hW.cell (p := ⟨b, off + a, none⟩) hlb).trans (hc a hlt))
      have hcl := Lib.hid (fun j u (hu : [Value.int .i64 (a : Int)][j]? = some u) => show (wr.alloc (.cells #[.int .i64 (a : Int)] 3)).cell? ⟨wr.heap.size, j, none⟩ = some u by rw [World.cell?_alloc_at _ _ _ _ rfl, List.getElem?_toArray]; exact hu)
      have hsz4 := hB4.size
      generalize hxx : bs[a]?.getD 0 = x at *
      generalize hL : pre.length = L at *
      generalize hol : optL bs a = s at *
      have hs0 : (0 : Int) < s := by omega
      have hsn : s ≠ 0 := by omega
      replace hol := Lib.hid hol
      replace hL := Lib.hid hL
      replace hpF := Lib.hid hpF
      replace hpl := Lib.hid hpl
      replace h := Lib.hid h
      replace hB4 := Lib.hid hB4
      clear hB3 ho3 hc hxx
      by_cases hx : x = 0
      · subst hx
        go_wp2_with (first
          | (go_at_call 61; refine (hO1.out).mono ?_; rintro e w' ⟨rfl, rfl⟩)
          | (at_builtin; refine wpList_append_og _ rfl 83 3 (.tmp 14) (.tmp 16) rfl (.int .i64 0) 1 8 Try.underlying83 info_intz rfl (by decide) rfl rfl ho4.out [.int .i64 (a : Int)] rfl hcl.out (by simp [Value.oneCell']) (by omega) (by omega) hsz4 ?_; intro A5 c5 w5 ho5 hg5; have hB5 := Lib.hid (hB4.out.grown hg5 hB4.out.size (fun k hk => (ho4.out.blk hk).1)); have hx5 := hcell0.out _ hB5.out; replace ho5 := Lib.hid ho5; clear hg5)
          | fail)
        have hpe : places bs = pre ++ [a] := by rw [hpl.out, hpF.out, if_neg hsn]; simp
        have hfin := Lib.hid (show L + 1 = (places bs).length by rw [hpe, ← hL.out]; simp)
        have hok : OG w5 w.heap.size 3 1 A5 (L + 1) c5 (placeV (places bs)) := by rw [hpe]; have := ho5.out; simpa [placeV] using this
        replace hok := Lib.hid hok
        go_wp2
        go_ret
        exact ⟨_, _, _, rfl, hfin.out, hok.out, hB5.out⟩
      · go_wp2_with (first
          | (go_at_call 61; refine (hO1.out).mono ?_; rintro e w' ⟨rfl, rfl⟩)
          | (at_builtin; refine wpList_append_og _ rfl 83 3 (.tmp 14) (.tmp 16) rfl (.int .i64 0) 1 8 Try.underlying83 info_intz rfl (by decide) rfl rfl ho4.out [.int .i64 (a : Int)] rfl hcl.out (by simp [Value.oneCell']) (by omega) (by omega) hsz4 ?_; intro A5 c5 w5 ho5 hg5; have hB5 := Lib.hid (hB4.out.grown hg5 hB4.out.size (fun k hk => (ho4.out.blk hk).1)); have hx5 := hcell0.out _ hB5.out; have hO2 := hop.out a _ hB5.out (by omega); rw [hol.out] at hO2; replace hO1 := 0; replace hO2 := Lib.hid hO2; replace ho5 := Lib.hid ho5; clear hg5)
          | (go_at_call 61; refine (hO2.out).mono ?_; rintro e w' ⟨rfl, rfl⟩)
          | fail)
        go_roundw
        case rel =>
          refine ⟨a + s, f, pre ++ [a], A5, c5, ?_, by omega, by omega, by go_num, by rw [List.length_append, hL.out]; rfl, ?_, hB5.out⟩
          · rw [hpl.out, hpF.out, if_neg hsn, if_neg hx]; simp
          · have := ho5.out
            rw [List.length_append, hL.out]
            simpa [placeV] using this
        case measure => simp [intOf]; omega
end Go.Proofs.Ytipigcpenmcaoaa
