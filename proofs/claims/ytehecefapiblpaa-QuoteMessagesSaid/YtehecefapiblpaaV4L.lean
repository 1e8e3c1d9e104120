/- Packets of IPv4: v4.Quoted, v4.Parse. -/
import Derived.Test.YtehecefapiblpaaV4K
import Derived.Test.YtehecefapiblpaaSeq
import Derived.Laws.CopyRow
set_option linter.unusedVariables false
namespace Go.Proofs.Ytehecefapiblpaa
open Go Go.RowKit

theorem readV4_ok {q : Bool} {bs : List Int} (h : codeV4 q bs = 0) : readV4 q bs = pack4 bs := if_pos h
theorem readV4_bad {q : Bool} {bs : List Int} (h : codeV4 q bs ≠ 0) : readV4 q bs = zero4 := if_neg h
theorem V4Out.no {w w' : World} {q : Bool} {bs : List Int} {k : Int} (hk : codeV4 q bs = k) (h0 : k ≠ 0) (hb : Below w.heap.size w w') : V4Out w (readV4 q bs) (codeV4 q bs) (.returned (.tuple #[.agg zero4c, .int .i64 k])) w' := by
  rw [readV4_bad (by rw [hk]; exact h0), hk]
  exact V4Out.bad hb
/-- A store of a whole variable into a result's cell, behind which a slice of bytes of the call's own stays. -/
theorem V4Out.yes {w w' : World} {q : Bool} {bs : List Int} {B : Nat} {old : Array Value} {Ao : Option Addr} {no co : Nat} {A : Option Addr} {n c : Nat} (hk : codeV4 q bs = 0) (kz : Blk w' B old 32) (hB : w.heap.size ≤ B) (ho : OB w' w.heap.size Ao no co (pack4 bs).opts) (hd : OB w' w.heap.size A n c (pack4 bs).data) (hb : Below w.heap.size w w') :
    V4Out w (readV4 q bs) (codeV4 q bs) (.returned (.tuple #[.agg (cells4 (pack4 bs) Ao no co A n c), .int .i64 0])) (w'.setRow B (cells4 (pack4 bs) Ao no co A n c)) := by
  rw [readV4_ok hk, hk]
  exact ⟨Ao, no, co, A, n, c, rfl, ho.farRow kz (show 5 ≠ 32 from by decide) _, hd.farRow kz (show 5 ≠ 32 from by decide) _, below_setRow hb hB _⟩
set_option maxRecDepth 100000 in
set_option maxHeartbeats 2000000 in
theorem Quoted4_any (A : Option Addr) (n c : Nat) (bs : List Int) (w : World) (hr : RB w A n c bs) (hn : n ≤ 100000) :
    Calls Try.prog 77 #[.slice A n c] w (V4Out w (readV4 true bs) (codeV4 true bs)) := by
  have hb0 := Lib.hid ((Below.refl _ w).alloc (Nat.le_refl _) (.cells zero4c 32))
  have kZ := Lib.hid (Blk.new w zero4c 32)
  have hO := fun W (hW : Below w.heap.size w W) => Open4_any A n c bs true W (hr.below hW) hn
  unfold OpenOut OpenOutK at hO
  have hcv : codeV4 true bs = codeO true bs := by unfold codeV4; split <;> simp_all
  by_cases hk : codeO true bs = 0
  · have hP := Lib.hid (fun W (hW : Below w.heap.size w W) => Packet4_any A n c true bs W (hr.below hW) hn hk)
    have hcz := Lib.hid (hcv.trans hk)
    rw [hk, if_pos rfl] at hO
    replace hO := Lib.hid hO
    obtain ⟨pk, hpk⟩ : ∃ pk, pack4 bs = pk := ⟨_, rfl⟩
    have hfin := Lib.hid (fun w' B old Ao no co A n c => @V4Out.yes w w' true bs B old Ao no co A n c hcz.out)
    rw [hpk] at hP hfin
    clear hr hk hcv hpk
    go_enter Try.func77, Try.ntmps77
    go_wp2_with (first
      | (refine wpList_store_RD rfl (.tmp 4) (.tmp 9) rfl w1.heap.size (cellsO A n c (hd4 bs) (sz4 bs)) rfl rfl _ (Blk.new _ (cellsO none 0 0 0 0) 93) rfl rfl (one_rd _ _ _ _ _) ?_; rw [World.setRow_alloc_new])
      | (refine wpList_load_RD rfl (.tmp 4) rfl w1.heap.size rfl _ k2.out rfl ?_)
      | (refine wpList_store_4 rfl (.tmp 2) (.tmp 16) rfl w.heap.size (cells4 pk Ao no co A' m c') rfl rfl _ kZ3.out rfl rfl (one4 _ _ _ _ _ _ _) ?_)
      | (go_at_call 55; refine (hO.out _ hb0.out).mono ?_; rintro e w1 ⟨rfl, hB1⟩; have hb1 := hb0.out.trans (hB1.mono hb0.out.size); have hb2 := Lib.hid (hb1.alloc hb1.size (.cells (cellsO A n c (hd4 bs) (sz4 bs)) 93)); have k2 := Lib.hid (Blk.new w1 (cellsO A n c (hd4 bs) (sz4 bs)) 93); have kZ2 := Lib.hid ((kZ.out.to hB1).alloc (.cells (cellsO A n c (hd4 bs) (sz4 bs)) 93)); clear hb1; replace hB1 := 0)
      | (go_at_call 57; refine (hP.out _ hb2.out).mono ?_; rintro e w3 ⟨Ao, no, co, A', m, c', rfl, ho3, hd3, hB3⟩; have hz2 := hb2.out.size; have hb3 := Lib.hid (hb2.out.trans (hB3.mono hz2)); have kZ3 := Lib.hid (kZ2.out.to hB3); replace ho3 := Lib.hid (ho3.mono hz2); replace hd3 := Lib.hid (hd3.mono hz2); replace hB3 := 0; clear hz2)
      | fail)
    refine bodyPost_ret (results_ct Try.results77 rfl (run_load_4 (Blk.mk (setRow_heap _ _ _ _ _ _ kZ3.out.at_)) rfl)) rfl ?_
    exact hfin.out _ _ _ _ _ _ _ _ _ kZ3.out (Nat.le_refl _) ho3.out hd3.out hb3.out
  · have hkn : (codeO true bs != 0) = true := by simpa using hk
    rw [if_neg hk] at hO
    obtain ⟨k, hke⟩ : ∃ k, codeO true bs = k := ⟨_, rfl⟩
    have hno := Lib.hid (fun w' hb => @V4Out.no w w' true bs k (hcv.trans hke) (by rw [← hke]; exact hk) hb)
    rw [hke] at hO hkn
    replace hO := Lib.hid hO
    clear hr hk hcv hke
    go_enter Try.func77, Try.ntmps77
    go_wp2_with (first
      | (refine wpList_store_RD rfl (.tmp 4) (.tmp 9) rfl w1.heap.size (cellsO none 0 0 0 0) rfl rfl _ (Blk.new _ (cellsO none 0 0 0 0) 93) rfl rfl (one_rd _ _ _ _ _) ?_; rw [World.setRow_alloc_new])
      | (refine wpList_store_4 rfl (.tmp 2) (.tmp 13) rfl w.heap.size zero4c rfl rfl _ kZ2.out rfl rfl (one4 zero4 none 0 0 none 0 0) ?_; rw [setRow_self _ _ _ _ _ kZ2.out.at_])
      | (go_at_call 55; refine (hO.out _ hb0.out).mono ?_; rintro e w1 ⟨rfl, hB1⟩; have hb1 := hb0.out.trans (hB1.mono hb0.out.size); have hb2 := Lib.hid (hb1.alloc hb1.size (.cells (cellsO none 0 0 0 0) 93)); have kZ2 := Lib.hid ((kZ.out.to hB1).alloc (.cells (cellsO none 0 0 0 0) 93)); clear hb1; replace hB1 := 0)
      | fail)
    refine bodyPost_ret (results_ct Try.results77 rfl (run_load_4 kZ2.out rfl)) rfl ?_
    exact hno.out _ hb2.out
set_option maxRecDepth 100000 in
set_option maxHeartbeats 4000000 in
theorem Parse4_any (A : Option Addr) (n c : Nat) (bs : List Int) (w : World) (hr : RB w A n c bs) (hn : n ≤ 100000) :
    Calls Try.prog 29 #[.slice A n c] w (V4Out w (readV4 false bs) (codeV4 false bs)) := by
  have hb0 := Lib.hid ((Below.refl _ w).alloc (Nat.le_refl _) (.cells zero4c 32))
  have kZ := Lib.hid (Blk.new w zero4c 32)
  have hO := fun W (hW : Below w.heap.size w W) => Open4_any A n c bs false W (hr.below hW) hn
  unfold OpenOut OpenOutK at hO
  by_cases hk : codeO false bs = 0
  rotate_left
  · have hcv : codeV4 false bs = codeO false bs := by unfold codeV4; rw [if_pos hk]
    have hkn : (codeO false bs != 0) = true := by simpa using hk
    rw [if_neg hk] at hO
    obtain ⟨k, hke⟩ : ∃ k, codeO false bs = k := ⟨_, rfl⟩
    have hno := Lib.hid (fun w' hb => @V4Out.no w w' false bs k (hcv.trans hke) (by rw [← hke]; exact hk) hb)
    rw [hke] at hO hkn
    replace hO := Lib.hid hO
    clear hr hk hcv hke
    go_enter Try.func29, Try.ntmps29
    go_wp2_with (first
      | (refine wpList_store_RD rfl (.tmp 4) (.tmp 10) rfl w1.heap.size (cellsO none 0 0 0 0) rfl rfl _ (Blk.new _ (cellsO none 0 0 0 0) 93) rfl rfl (one_rd _ _ _ _ _) ?_; rw [World.setRow_alloc_new])
      | (refine wpList_store_4 rfl (.tmp 2) (.tmp 14) rfl w.heap.size zero4c rfl rfl _ kZ2.out rfl rfl (one4 zero4 none 0 0 none 0 0) ?_; rw [setRow_self _ _ _ _ _ kZ2.out.at_])
      | (go_at_call 55; refine (hO.out _ hb0.out).mono ?_; rintro e w1 ⟨rfl, hB1⟩; have hb1 := hb0.out.trans (hB1.mono hb0.out.size); have hb2 := Lib.hid (hb1.alloc hb1.size (.cells (cellsO none 0 0 0 0) 93)); have kZ2 := Lib.hid ((kZ.out.to hB1).alloc (.cells (cellsO none 0 0 0 0) 93)); clear hb1; replace hB1 := 0)
      | fail)
    refine bodyPost_ret (results_ct Try.results29 rfl (run_load_4 kZ2.out rfl)) rfl ?_
    exact hno.out _ hb2.out
  obtain ⟨o1, o2, o3, o4, o5, o6, o7, o8⟩ := codeO_ok hk
  have hlen := hr.len
  rw [hlen] at o1 o5 o8
  obtain ⟨b, off, rfl, hbl, _⟩ := hr.mem (by omega)
  have hnc := hr.nc
  have hP := Lib.hid (fun W (hW : Below w.heap.size w W) => Packet4_any (some ⟨b, off, none⟩) n c false bs W (hr.below hW) hn hk)
  have hR := Lib.hid (fun W (hW : Below w.heap.size w W) => (hr.below hW).first_ (show hd4 bs ≤ n by omega))
  have hsm := Lib.hid (small_one (hr.byt.take (hd4 bs)) (by rw [List.length_take]; omega))
  have hcode : codeV4 false bs = if (foldI (totalI [bs.take (hd4 bs)]) == 65535) = false then 5 else if chk4 (pack4 bs) ≠ 0 then 4 else 0 := by
    unfold codeV4; rw [if_neg (by omega), if_neg (by decide)]
  have hno := Lib.hid (fun k w' => @V4Out.no w w' false bs k)
  have hfin := Lib.hid (fun w' B old Ao no co A n c => @V4Out.yes w w' false bs B old Ao no co A n c)
  rw [hk, if_pos rfl] at hO
  have hdl : (pack4 bs).data.length ≤ 100000 ∧ (pack4 bs).opts.length ≤ 100000 := by
    unfold pack4; simp only [List.length_drop, List.length_take]; omega
  obtain ⟨pk, hpk⟩ : ∃ pk, pack4 bs = pk := ⟨_, rfl⟩
  rw [hpk] at hP hfin hcode hdl
  obtain ⟨cv, hcv⟩ : ∃ cv, codeV4 false bs = cv := ⟨_, rfl⟩
  rw [hcv] at hno hfin hcode ⊢
  obtain ⟨hd, hhd⟩ : ∃ hd, hd4 bs = hd := ⟨_, rfl⟩
  obtain ⟨sz, hsz⟩ : ∃ sz, sz4 bs = sz := ⟨_, rfl⟩
  rw [hhd] at hR hsm hcode
  rw [hhd, hsz] at hO hP
  rw [hhd] at o5
  obtain ⟨qb, hqe⟩ : ∃ qb : Bool, (foldI (totalI [bs.take hd]) == 65535) = qb := ⟨_, rfl⟩
  rw [hqe] at hcode
  have hq := Lib.hid hqe
  have i1 : (hd : Int) ≤ c := by omega
  have i2 : hd ≤ c := by omega
  replace hO := Lib.hid hO
  replace hcode := Lib.hid hcode
  clear hr hk hpk hcv hhd hsz hqe hlen
  cases qb
  · have h5 := Lib.hid (show cv = 5 from hcode.out)
    go_enter Try.func29, Try.ntmps29
    go_wp2_with (first
      | (refine wpList_store_RD rfl (.tmp 4) (.tmp 10) rfl w1.heap.size (cellsO (some ⟨b, off, none⟩) n c hd sz) rfl rfl _ (Blk.new _ (cellsO none 0 0 0 0) 93) rfl rfl (one_rd _ _ _ _ _) ?_; rw [World.setRow_alloc_new])
      | (refine wpList_store_4 rfl (.tmp 2) (.tmp 23) rfl w.heap.size zero4c rfl rfl _ kZ3.out rfl rfl (one4 zero4 none 0 0 none 0 0) ?_; rw [setRow_self _ _ _ _ _ kZ3.out.at_])
      | (go_at_call 55; refine (hO.out _ hb0.out).mono ?_; rintro e w1 ⟨rfl, hB1⟩; have hb1 := hb0.out.trans (hB1.mono hb0.out.size); have hb2 := Lib.hid (hb1.alloc hb1.size (.cells (cellsO (some ⟨b, off, none⟩) n c hd sz) 93)); have k2' := Blk.new w1 (cellsO (some ⟨b, off, none⟩) n c hd sz) 93; have x1 := k2'.cell 1 _ rfl; have k2 := Lib.hid k2'; have kZ2 := Lib.hid ((kZ.out.to hB1).alloc (.cells (cellsO (some ⟨b, off, none⟩) n c hd sz) 93)); clear hb1 k2'; replace hB1 := 0)
      | (go_at_call 56; have hrr := rbb_one (hR.out _ hb2.out); rw [World.size_alloc] at hrr; refine (Right_any _ 1 1 [bs.take hd] _ hrr hsm.out).mono ?_; clear hrr; rintro e w3 ⟨rfl, hB3⟩; rw [hq.out]; have hb2s := hb2.out.size; have hbx := hb2.out.alloc hb2s (.cells #[.slice (some ⟨b, off, none⟩) hd c] 24); have hb3 := Lib.hid (hbx.trans (hB3.mono hbx.size)); have k3 := Lib.hid ((k2.out.alloc (.cells #[.slice (some ⟨b, off, none⟩) hd c] 24)).to hB3); have kZ3 := Lib.hid ((kZ2.out.alloc (.cells #[.slice (some ⟨b, off, none⟩) hd c] 24)).to hB3); clear hb2s hbx; replace hB3 := 0)
      | fail)
    refine bodyPost_ret (results_ct Try.results29 rfl (run_load_4 kZ3.out rfl)) rfl ?_
    exact hno.out _ _ h5.out (by decide) hb3.out
  · have hcode2 := Lib.hid (show cv = if chk4 pk ≠ 0 then 4 else 0 from hcode.out)
    go_enter Try.func29, Try.ntmps29
    go_upto_region 7 with (first
      | (refine wpList_store_RD rfl (.tmp 4) (.tmp 10) rfl w1.heap.size (cellsO (some ⟨b, off, none⟩) n c hd sz) rfl rfl _ (Blk.new _ (cellsO none 0 0 0 0) 93) rfl rfl (one_rd _ _ _ _ _) ?_; rw [World.setRow_alloc_new])
      | (refine wpList_load_RD rfl (.tmp 4) rfl w1.heap.size rfl _ k3.out rfl ?_)
      | (refine wpList_store_4 rfl (.tmp 6) (.tmp 25) rfl w4.heap.size (cells4 pk Ao no co A' m c') rfl rfl _ (Blk.new _ zero4c 32) rfl rfl (one4 _ _ _ _ _ _ _) ?_; rw [World.setRow_alloc_new])
      | (go_at_call 57; refine (hP.out _ hb3.out).mono ?_; rintro e w4 ⟨Ao, no, co, A', m, c', rfl, ho4, hd4, hB4⟩; have hz3 := hb3.out.size; have hb4 := hb3.out.trans (hB4.mono hz3); have hb5 := Lib.hid (hb4.alloc hb4.size (.cells (cells4 pk Ao no co A' m c') 32)); have kZ5 := Lib.hid ((kZ3.out.to hB4).alloc (.cells (cells4 pk Ao no co A' m c') 32)); have ho5 := Lib.hid ((ho4.mono hz3).alloc (.cells (cells4 pk Ao no co A' m c') 32)); have hd5 := Lib.hid ((hd4.mono hz3).alloc (.cells (cells4 pk Ao no co A' m c') 32)); have k5 := Lib.hid (Blk.new w4 (cells4 pk Ao no co A' m c') 32); replace hB4 := 0; clear hz3 hb4 ho4 hd4)
      | (go_at_call 55; refine (hO.out _ hb0.out).mono ?_; rintro e w1 ⟨rfl, hB1⟩; have hb1 := hb0.out.trans (hB1.mono hb0.out.size); have hb2 := Lib.hid (hb1.alloc hb1.size (.cells (cellsO (some ⟨b, off, none⟩) n c hd sz) 93)); have k2' := Blk.new w1 (cellsO (some ⟨b, off, none⟩) n c hd sz) 93; have x1 := k2'.cell 1 _ rfl; have k2 := Lib.hid k2'; have kZ2 := Lib.hid ((kZ.out.to hB1).alloc (.cells (cellsO (some ⟨b, off, none⟩) n c hd sz) 93)); clear hb1 k2'; replace hB1 := 0)
      | (go_at_call 56; have hrr := rbb_one (hR.out _ hb2.out); rw [World.size_alloc] at hrr; refine (Right_any _ 1 1 [bs.take hd] _ hrr hsm.out).mono ?_; clear hrr; rintro e w3 ⟨rfl, hB3⟩; rw [hq.out]; have hb2s := hb2.out.size; have hbx := hb2.out.alloc hb2s (.cells #[.slice (some ⟨b, off, none⟩) hd c] 24); have hb3 := Lib.hid (hbx.trans (hB3.mono hbx.size)); have k3 := Lib.hid ((k2.out.alloc (.cells #[.slice (some ⟨b, off, none⟩) hd c] 24)).to hB3); have kZ3 := Lib.hid ((kZ2.out.alloc (.cells #[.slice (some ⟨b, off, none⟩) hd c] 24)).to hB3); clear hb2s hbx; replace hB3 := 0)
      | fail)
    try simp only [Act.put]
    have hol := ho5.out.len
    have hml := hd5.out.len
    have hck : chk4 pk = checkV4 pk no m := by unfold chk4; rw [hol, hml]
    rw [hol, hml] at hdl
    have hK := fun W => Check4_any pk Ao no co A' m c' W hdl.2 hdl.1
    have hcode3 := hcode2.out
    rw [hck] at hcode3
    obtain ⟨ck, hcke⟩ : ∃ ck, checkV4 pk no m = ck := ⟨_, rfl⟩
    rw [hcke] at hK hcode3
    replace hK := Lib.hid hK
    replace hcode3 := Lib.hid hcode3
    clear hck hcke hol hml x1
    by_cases hc : ck = 0
    · have h0 := Lib.hid (show cv = 0 by rw [hcode3.out, if_neg (by omega)])
      subst hc
      go_wp2_with (first
        | (refine wpList_load_4 rfl (.tmp 6) rfl w4.heap.size rfl _ k6.out rfl ?_)
        | (refine wpList_load_4 rfl (.tmp 6) rfl w4.heap.size rfl _ k5.out rfl ?_)
        | (refine wpList_store_4 rfl (.tmp 2) (.tmp 30) rfl w.heap.size (cells4 pk Ao no co A' m c') rfl rfl _ kZ6.out rfl rfl (one4 _ _ _ _ _ _ _) ?_)
        | (go_at_call 51; refine (hK.out _).mono ?_; rintro e w6 ⟨rfl, hB6⟩; have k6 := Lib.hid (k5.out.to hB6); have kZ6 := Lib.hid (kZ5.out.to hB6); have ho6 := Lib.hid (ho5.out.below hB6); have hd6 := Lib.hid (hd5.out.below hB6); have hb6 := Lib.hid (hb5.out.trans (hB6.mono hb5.out.size)); replace hB6 := 0)
        | fail)
      refine bodyPost_ret (results_ct Try.results29 rfl (run_load_4 (Blk.mk (setRow_heap _ _ _ _ _ _ kZ6.out.at_)) rfl)) rfl ?_
      exact hfin.out _ _ _ _ _ _ _ _ _ h0.out kZ6.out (Nat.le_refl _) ho6.out hd6.out hb6.out
    · have h4 := Lib.hid (show cv = 4 by rw [hcode3.out, if_pos hc])
      have hcn : (ck != 0) = true := by simpa using hc
      go_wp2_with (first
        | (refine wpList_load_4 rfl (.tmp 6) rfl w4.heap.size rfl _ k5.out rfl ?_)
        | (refine wpList_store_4 rfl (.tmp 2) (.tmp 29) rfl w.heap.size zero4c rfl rfl _ kZ6.out rfl rfl (one4 zero4 none 0 0 none 0 0) ?_; rw [setRow_self _ _ _ _ _ kZ6.out.at_])
        | (go_at_call 51; refine (hK.out _).mono ?_; rintro e w6 ⟨rfl, hB6⟩; have kZ6 := Lib.hid (kZ5.out.to hB6); have hb6 := Lib.hid (hb5.out.trans (hB6.mono hb5.out.size)); replace hB6 := 0)
        | fail)
      refine bodyPost_ret (results_ct Try.results29 rfl (run_load_4 kZ6.out rfl)) rfl ?_
      exact hno.out _ _ h4.out (by decide) hb6.out
end Go.Proofs.Ytehecefapiblpaa
