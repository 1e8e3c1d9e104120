/- Packets of IPv4 (the reference): Check. -/
import Derived.Test.YtmbmmpbfmakfbaaV4C
import Derived.Deep.DeepCutAuto
import Derived.Deep.RegionWith
set_option linter.unusedVariables false
namespace Go.Proofs.Ytmbmmpbfmakfbaa
open Go Go.RowKit

section
variable (p : V4P) (Ao : Option Addr) (no co : Nat) (A : Option Addr) (n c : Nat) (w : World)
set_option maxRecDepth 100000 in
set_option maxHeartbeats 2000000 in
theorem RefCheck4_any (hno : no ≤ 100000) (hn : n ≤ 100000) : Calls Try.prog 41 #[.agg (cells4 p Ao no co A n c)] w fun e w' => e = .returned (.int .i64 (checkV4 p no n)) ∧ Below w.heap.size w w' := by
  have hb := Lib.hid ((Below.refl _ w).alloc (Nat.le_refl _) (.cells (cells4 p Ao no co A n c) 32))
  have kB := Lib.hid (Blk.new w (cells4 p Ao no co A n c) 32)
  have hF1 := fun W => RefFits_any p.tos 1 W
  have hF2 := fun W => RefFits_any p.ttl 1 W
  have hF3 := fun W => RefFits_any p.pr 1 W
  have hF4 := fun W => RefFits_any p.id 2 W
  have hR1 := fun W => RefRight4_any W p.src
  have hR2 := fun W => RefRight4_any W p.dst
  have hS4 := Lib.hid (fun W => RefSize4_any p Ao no co A n c W hno hn)
  have hV := Lib.hid (show (Try.prog.info? 32).map (·.size) = some (cells4 p Ao no co A n c).size from info_v4)
  have hok : okV4 p no n = (fitsA p && (endsA p && (placeA p n && optsA no))) := rfl
  unfold fitsA endsA placeA optsA at hok
  have hk : checkV4 p no n = if okV4 p no n = true then (if (65535 : Int) < 20 + no + n ∨ (65535 : Int) - n < p.off then 6 else 0) else 1 := rfl
  generalize okV4 p no n = ok at *
  generalize fitsB p.tos 1 = f1 at *
  generalize fitsB p.ttl 1 = f2 at *
  generalize fitsB p.pr 1 = f3 at *
  generalize fitsB p.id 2 = f4 at *
  generalize rightB p.src = r1 at *
  generalize rightB p.dst = r2 at *
  obtain ⟨q1, hq1⟩ : ∃ q, decide (0 ≤ p.off) = q := ⟨_, rfl⟩
  obtain ⟨q2, hq2⟩ : ∃ q, decide (p.off ≤ 65528) = q := ⟨_, rfl⟩
  obtain ⟨q3, hq3⟩ : ∃ q, (p.off.tmod 8 == 0) = q := ⟨_, rfl⟩
  obtain ⟨q4, hq4⟩ : ∃ q, ((n : Int) % 8 == 0) = q := ⟨_, rfl⟩
  obtain ⟨q5, hq5⟩ : ∃ q, decide ((no : Int) ≤ 40) = q := ⟨_, rfl⟩
  obtain ⟨q6, hq6⟩ : ∃ q, ((no : Int) % 4 == 0) = q := ⟨_, rfl⟩
  rw [hq1, hq2, hq3, hq4, hq5, hq6] at hok
  obtain ⟨F, hF⟩ : ∃ F, (f1 && (f2 && (f3 && f4))) = F := ⟨_, rfl⟩
  obtain ⟨R, hR⟩ : ∃ R, (r1 && (r2 && (q1 && (q2 && q3)))) = R := ⟨_, rfl⟩
  obtain ⟨O, hO⟩ : ∃ O, (q5 && q6) = O := ⟨_, rfl⟩
  have hok2 := Lib.hid (show ok = (F && (R && (O && (!p.mf || q4)))) by rw [hok, ← hF, ← hR, ← hO]; cases f1 <;> cases f2 <;> cases f3 <;> cases f4 <;> cases r1 <;> cases r2 <;> simp [Bool.and_comm, Bool.and_left_comm, Bool.and_assoc])
  have hq4' : ((n : Int) % 8 != 0) = !q4 := by rw [← hq4]; rfl
  replace hok := 0
  replace hF := Lib.hid hF
  replace hR := Lib.hid hR
  replace hO := Lib.hid hO
  replace hF1 := Lib.hid hF1
  replace hF2 := Lib.hid hF2
  replace hF3 := Lib.hid hF3
  replace hF4 := Lib.hid hF4
  replace hR1 := Lib.hid hR1
  replace hR2 := Lib.hid hR2
  go_enter Try.func41, Try.ntmps41
  go_upto_region 1 with (fail)
  go_cut [3] (fun v wx => v = .bool (f1 && (f2 && (f3 && f4))) ∧ wx = w.alloc (.cells (cells4 p Ao no co A n c) 32))
  case first =>
    cases f1
    · skip
      go_wp2_with (first
        | (go_at_call_of 61 (Value.int IntKind.i64 p.tos); refine (hF1.out _).mono ?_; rintro e w' ⟨rfl, rfl⟩)
        | (go_at_call_of 61 (Value.int IntKind.i64 p.ttl); refine (hF2.out _).mono ?_; rintro e w' ⟨rfl, rfl⟩)
        | (go_at_call_of 61 (Value.int IntKind.i64 p.pr); refine (hF3.out _).mono ?_; rintro e w' ⟨rfl, rfl⟩)
        | (go_at_call_of 61 (Value.int IntKind.i64 p.id); refine (hF4.out _).mono ?_; rintro e w' ⟨rfl, rfl⟩)
        | fail)
      go_meet
      case rel => exact ⟨rfl, rfl⟩
    cases f2
    · skip
      go_wp2_with (first
        | (go_at_call_of 61 (Value.int IntKind.i64 p.tos); refine (hF1.out _).mono ?_; rintro e w' ⟨rfl, rfl⟩)
        | (go_at_call_of 61 (Value.int IntKind.i64 p.ttl); refine (hF2.out _).mono ?_; rintro e w' ⟨rfl, rfl⟩)
        | (go_at_call_of 61 (Value.int IntKind.i64 p.pr); refine (hF3.out _).mono ?_; rintro e w' ⟨rfl, rfl⟩)
        | (go_at_call_of 61 (Value.int IntKind.i64 p.id); refine (hF4.out _).mono ?_; rintro e w' ⟨rfl, rfl⟩)
        | fail)
      go_meet
      case rel => exact ⟨rfl, rfl⟩
    cases f3
    · skip
      go_wp2_with (first
        | (go_at_call_of 61 (Value.int IntKind.i64 p.tos); refine (hF1.out _).mono ?_; rintro e w' ⟨rfl, rfl⟩)
        | (go_at_call_of 61 (Value.int IntKind.i64 p.ttl); refine (hF2.out _).mono ?_; rintro e w' ⟨rfl, rfl⟩)
        | (go_at_call_of 61 (Value.int IntKind.i64 p.pr); refine (hF3.out _).mono ?_; rintro e w' ⟨rfl, rfl⟩)
        | (go_at_call_of 61 (Value.int IntKind.i64 p.id); refine (hF4.out _).mono ?_; rintro e w' ⟨rfl, rfl⟩)
        | fail)
      go_meet
      case rel => exact ⟨rfl, rfl⟩
    go_wp2_with (first
      | (go_at_call_of 61 (Value.int IntKind.i64 p.tos); refine (hF1.out _).mono ?_; rintro e w' ⟨rfl, rfl⟩)
      | (go_at_call_of 61 (Value.int IntKind.i64 p.ttl); refine (hF2.out _).mono ?_; rintro e w' ⟨rfl, rfl⟩)
      | (go_at_call_of 61 (Value.int IntKind.i64 p.pr); refine (hF3.out _).mono ?_; rintro e w' ⟨rfl, rfl⟩)
      | (go_at_call_of 61 (Value.int IntKind.i64 p.id); refine (hF4.out _).mono ?_; rintro e w' ⟨rfl, rfl⟩)
      | fail)
    go_meet
    case rel => exact ⟨rfl, rfl⟩
  case rest =>
    obtain ⟨rfl, rfl⟩ := hcut
    go_upto_region 2 with (fail)
    go_cut [4] (fun v wx => v = .bool (r1 && (r2 && (q1 && (q2 && q3)))) ∧ wx = w.alloc (.cells (cells4 p Ao no co A n c) 32))
    case first =>
      cases r1
      · skip
        go_wp2_with (first
          | (go_at_call_of 60 (Value.int IntKind.i64 p.src); refine (hR1.out _).mono ?_; rintro e w' ⟨rfl, rfl⟩)
          | (go_at_call_of 60 (Value.int IntKind.i64 p.dst); refine (hR2.out _).mono ?_; rintro e w' ⟨rfl, rfl⟩)
          | fail)
        go_meet
        case rel => exact ⟨rfl, rfl⟩
      cases r2
      · skip
        go_wp2_with (first
          | (go_at_call_of 60 (Value.int IntKind.i64 p.src); refine (hR1.out _).mono ?_; rintro e w' ⟨rfl, rfl⟩)
          | (go_at_call_of 60 (Value.int IntKind.i64 p.dst); refine (hR2.out _).mono ?_; rintro e w' ⟨rfl, rfl⟩)
          | fail)
        go_meet
        case rel => exact ⟨rfl, rfl⟩
      cases q1
      · skip
        go_wp2_with (first
          | (go_at_call_of 60 (Value.int IntKind.i64 p.src); refine (hR1.out _).mono ?_; rintro e w' ⟨rfl, rfl⟩)
          | (go_at_call_of 60 (Value.int IntKind.i64 p.dst); refine (hR2.out _).mono ?_; rintro e w' ⟨rfl, rfl⟩)
          | fail)
        go_meet
        case rel => exact ⟨rfl, rfl⟩
      cases q2
      · skip
        go_wp2_with (first
          | (go_at_call_of 60 (Value.int IntKind.i64 p.src); refine (hR1.out _).mono ?_; rintro e w' ⟨rfl, rfl⟩)
          | (go_at_call_of 60 (Value.int IntKind.i64 p.dst); refine (hR2.out _).mono ?_; rintro e w' ⟨rfl, rfl⟩)
          | fail)
        go_meet
        case rel => exact ⟨rfl, rfl⟩
      go_wp2_with (first
        | (go_at_call_of 60 (Value.int IntKind.i64 p.src); refine (hR1.out _).mono ?_; rintro e w' ⟨rfl, rfl⟩)
        | (go_at_call_of 60 (Value.int IntKind.i64 p.dst); refine (hR2.out _).mono ?_; rintro e w' ⟨rfl, rfl⟩)
        | fail)
      go_meet
      case rel => exact ⟨rfl, rfl⟩
    case rest =>
      obtain ⟨rfl, rfl⟩ := hcut
      go_upto_region 3 with (fail)
      go_cut [5] (fun v wx => v = .bool (q5 && q6) ∧ wx = w.alloc (.cells (cells4 p Ao no co A n c) 32))
      case first =>
        cases q5
        · skip
          go_wp2
          go_meet
          case rel => exact ⟨rfl, rfl⟩
        go_wp2
        go_meet
        case rel => exact ⟨rfl, rfl⟩
      case rest =>
        obtain ⟨rfl, rfl⟩ := hcut
        rw [hF.out, hR.out, hO.out]
        go_upto_region 4 with (fail)
        go_cut [79] (fun v wx => v = .bool (!ok) ∧ wx = w.alloc (.cells (cells4 p Ao no co A n c) 32))
        case first =>
          cases F
          · skip
            go_wp2
            go_meet
            case rel => exact ⟨by rw [hok2.out]; first | rfl | (rw [hm]; rfl), rfl⟩
          cases R
          · skip
            go_wp2
            go_meet
            case rel => exact ⟨by rw [hok2.out]; first | rfl | (rw [hm]; rfl), rfl⟩
          cases O
          · skip
            go_wp2
            go_meet
            case rel => exact ⟨by rw [hok2.out]; first | rfl | (rw [hm]; rfl), rfl⟩
          cases hm : p.mf
          · skip
            go_wp2
            go_meet
            case rel => exact ⟨by rw [hok2.out]; first | rfl | (rw [hm]; rfl), rfl⟩
          cases q4
          · skip
            go_wp2
            go_meet
            case rel => exact ⟨by rw [hok2.out]; first | rfl | (rw [hm]; rfl), rfl⟩
          go_wp2
          go_meet
          case rel => exact ⟨by rw [hok2.out]; first | rfl | (rw [hm]; rfl), rfl⟩
        case rest =>
          obtain ⟨rfl, rfl⟩ := hcut
          clear hF hR hO hq1 hq2 hq3 hq4 hq4' hq5 hq6
          replace hok2 := 0
          cases ok
          · replace hk := Lib.hid (show checkV4 p no n = 1 from hk)
            go_wp2
            go_ret
            exact ⟨by rw [hk.out]; rfl, hb.out⟩
          · by_cases h6 : (65535 : Int) < 20 + no + n
            · replace hk := Lib.hid (show checkV4 p no n = 6 by rw [hk, if_pos rfl, if_pos (.inl h6)])
              go_wp2_with (first
                | (refine wpList_load_row rfl 32 (.tmp 1) rfl w.heap.size rfl _ (cells4 p Ao no co A n c) _ _ kB.out.at_ Try.underlying32 rfl hV.out ?_)
                | (go_at_call 43; refine (hS4.out _).mono ?_; rintro e w6 ⟨rfl, hB6⟩; have kW6 := kB.out.to hB6; have y2 : w6.cell? ⟨w.heap.size, 2, none⟩ = some (.int .i64 p.off) := kW6.cell 2 _ rfl; have y10 : w6.cell? ⟨w.heap.size, 10, none⟩ = some (.slice A n c) := kW6.cell 10 _ rfl; have hb6 := Lib.hid (hb.out.trans (hB6.mono hb.out.size)); replace hB6 := 0; clear kW6)
                | fail)
              go_ret
              exact ⟨by rw [hk.out]; rfl, hb6.out⟩
            · by_cases h7 : (65535 : Int) - n < p.off
              · replace hk := Lib.hid (show checkV4 p no n = 6 by rw [hk, if_pos rfl, if_pos (.inr h7)])
                go_wp2_with (first
                  | (refine wpList_load_row rfl 32 (.tmp 1) rfl w.heap.size rfl _ (cells4 p Ao no co A n c) _ _ kB.out.at_ Try.underlying32 rfl hV.out ?_)
                  | (go_at_call 43; refine (hS4.out _).mono ?_; rintro e w6 ⟨rfl, hB6⟩; have kW6 := kB.out.to hB6; have y2 : w6.cell? ⟨w.heap.size, 2, none⟩ = some (.int .i64 p.off) := kW6.cell 2 _ rfl; have y10 : w6.cell? ⟨w.heap.size, 10, none⟩ = some (.slice A n c) := kW6.cell 10 _ rfl; have hb6 := Lib.hid (hb.out.trans (hB6.mono hb.out.size)); replace hB6 := 0; clear kW6)
                  | fail)
                go_ret
                exact ⟨by rw [hk.out]; rfl, hb6.out⟩
              · replace hk := Lib.hid (show checkV4 p no n = 0 by rw [hk, if_pos rfl, if_neg (by omega)])
                go_wp2_with (first
                  | (refine wpList_load_row rfl 32 (.tmp 1) rfl w.heap.size rfl _ (cells4 p Ao no co A n c) _ _ kB.out.at_ Try.underlying32 rfl hV.out ?_)
                  | (go_at_call 43; refine (hS4.out _).mono ?_; rintro e w6 ⟨rfl, hB6⟩; have kW6 := kB.out.to hB6; have y2 : w6.cell? ⟨w.heap.size, 2, none⟩ = some (.int .i64 p.off) := kW6.cell 2 _ rfl; have y10 : w6.cell? ⟨w.heap.size, 10, none⟩ = some (.slice A n c) := kW6.cell 10 _ rfl; have hb6 := Lib.hid (hb.out.trans (hB6.mono hb.out.size)); replace hB6 := 0; clear kW6)
                  | fail)
                go_ret
                exact ⟨by rw [hk.out]; rfl, hb6.out⟩
end
end Go.Proofs.Ytmbmmpbfmakfbaa
