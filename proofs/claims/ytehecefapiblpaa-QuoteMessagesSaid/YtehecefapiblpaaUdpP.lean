/- Datagrams (udp): walk of Parse. -/
import Derived.Test.YtehecefapiblpaaUdpB
import Derived.Test.YtehecefapiblpaaBase
import Derived.Test.YtehecefapiblpaaSeq
set_option linter.unusedVariables false
namespace Go.Proofs.Ytehecefapiblpaa
open Go.RowKit Go.Shelf
attribute [local go_sem] Oper.semAt_some

def parsedU (bs : List Int) : UdpP := ⟨(getV bs 0 2).1, (getV bs 2 2).1, (getV bs 6 2).1 == 0, bs.drop 8⟩
def codeU (src dst : Int) (bs : List Int) : Int :=
  if bs.length < 8 then 3 else if (getV bs 4 2).1 < 8 then 4 else if (bs.length : Int) < (getV bs 4 2).1 then 3 else if (getV bs 4 2).1 < (bs.length : Int) then 4 else
  if ((getV bs 6 2).1 == 0) = true then 0 else if (foldI (totalI [pseudoB src dst 17 (bs.length : Nat), bs]) == 65535) = true then 0 else 5
def readU (src dst : Int) (bs : List Int) : UdpP := if codeU src dst bs = 0 then parsedU bs else ⟨0, 0, false, []⟩
def UdpOut (w : World) (m : UdpP) (e0 : Int) (e : Ending) (w' : World) : Prop := ∃ A2 n2 c2, e = .returned (.tuple #[.agg (cellsU m A2 n2 c2), .int .i64 e0]) ∧ OB w' w.heap.size A2 n2 c2 m.data ∧ Below w.heap.size w w'
theorem UdpOut.bad {w w' : World} {src dst : Int} {bs : List Int} {k : Int} (hk : codeU src dst bs = k) (h0 : k ≠ 0) (hb : Below w.heap.size w w') : UdpOut w (readU src dst bs) (codeU src dst bs) (.returned (.tuple #[.agg #[.int .i64 0, .int .i64 0, .bool false, .slice none 0 0], .int .i64 k])) w' := by
  unfold readU
  rw [hk, if_neg h0]
  exact ⟨none, 0, 0, rfl, OB.nil _ _, hb⟩
theorem getV_word (bs : List Int) (i : Nat) (h : 2 * i + 2 ≤ bs.length) : (getV bs (2 * (i : Int)) 2).1 = wordI bs (2 * i) := by
  unfold getV
  rw [if_neg (by omega), if_neg (by omega)]
  have e : (2 * (i : Int)).toNat = 2 * i := by omega
  simp only [e]
  have h0 : 2 * i < bs.length := by omega
  have h1 : 2 * i + 1 < bs.length := by omega
  have : cutI bs (2 * i) (2 : Int).toNat = [bs[2 * i], bs[2 * i + 1]] := by
    unfold cutI
    rw [List.drop_eq_getElem_cons h0, List.drop_eq_getElem_cons h1]
    rfl
  rw [this]
  unfold wordI
  rw [List.getElem?_eq_getElem h0, List.getElem?_eq_getElem h1]
  simp [beNum]
theorem wordI_take (bs : List Int) (j : Nat) (hj : j + 1 < 8) : wordI (bs.take 8) j = wordI bs j := by
  unfold wordI
  rw [List.getElem?_take, List.getElem?_take, if_pos (by omega), if_pos hj]
theorem Blk.grU {N : Nat} {A B : World} {b : Nat} {P : Array Value} {T : TypeId} (h : Blk A b P T) (hg : Gr N A B) : Blk B b P T := ⟨hg.keep b _ h.at_ (.inr rfl)⟩

/-- The first words, in an array of four. -/
def arrU (bs : List Int) (i : Nat) : Array Value := #[.int .i64 (if 0 < i then wordI bs 0 else 0), .int .i64 (if 1 < i then wordI bs 2 else 0), .int .i64 (if 2 < i then wordI bs 4 else 0), .int .i64 (if 3 < i then wordI bs 6 else 0)]
theorem arrU_set (bs : List Int) (i : Nat) (hi : i < 4) : (arrU bs i).setIfInBounds i (.int .i64 (wordI bs (2 * i))) = arrU bs (i + 1) := by
  have : i = 0 ∨ i = 1 ∨ i = 2 ∨ i = 3 := by omega
  rcases this with rfl | rfl | rfl | rfl <;> simp [arrU]

set_option maxRecDepth 100000 in
set_option maxHeartbeats 1000000 in
theorem UdpParse_short (src dst : Int) (A : Option Addr) (n c : Nat) (bs : List Int) (w : World) (h : bs.length = n) (h8 : n < 8) :
    Calls Try.prog 99 #[.int .i64 src, .int .i64 dst, .slice A n c] w (UdpOut w (readU src dst bs) (codeU src dst bs)) := by
  have hb0 := Lib.hid ((Below.refl _ w).alloc (Nat.le_refl _) (.cells #[.int .i64 0, .int .i64 0, .bool false, .slice none 0 0] 36))
  have hk := Lib.hid (show codeU src dst bs = 3 by unfold codeU; rw [h, if_pos h8])
  clear h
  go_enter Try.func99, Try.ntmps99
  go_wp2
  exact bodyPost_ret (v := .tuple #[.agg #[.int .i64 0, .int .i64 0, .bool false, .slice none 0 0], .int .i64 3]) (by simp [results, Try.results99, go_sem]) rfl (UdpOut.bad hk.out (by decide) hb0.out)

theorem set4_far (W : World) {B D : Nat} (h : D ≠ B) (v0 v1 v2 v3 : Value) : (set4 W B v0 v1 v2 v3).heap[D]? = W.heap[D]? := by
  unfold set4
  rw [Below.heap_setCell _ _ _ _ h, Below.heap_setCell _ _ _ _ h, Below.heap_setCell _ _ _ _ h, Below.heap_setCell _ _ _ _ h]
theorem marks_set4 {N : Nat} {W : World} {D B : Nat} (h : Marks N W [{ target := .collected D, args := #[] }]) (hB : D ≠ B) (v0 v1 v2 v3 : Value) : Marks N (set4 W B v0 v1 v2 v3) [{ target := .collected D, args := #[] }] :=
  h.keep fun d hd D' e => by
    simp only [List.mem_singleton] at hd
    subst hd
    cases e
    exact set4_far W hB v0 v1 v2 v3

theorem marks_lt {N : Nat} {W : World} {D : Nat} (h : Marks N W [{ target := .collected D, args := #[] }]) : D < W.heap.size := (h.lt _ (List.mem_singleton_self _) D rfl).2
theorem marks_below {N : Nat} {W W' : World} {D : Nat} (h : Marks N W [{ target := .collected D, args := #[] }]) (hb : Below W.heap.size W W') : Marks N W' [{ target := .collected D, args := #[] }] :=
  h.keep fun d hd D' e => hb.block D' (h.lt d hd D' e).2


set_option maxRecDepth 100000 in
set_option maxHeartbeats 8000000 in
theorem UdpParse_long (src dst : Int) (A : Option Addr) (n c : Nat) (bs : List Int) (w : World) (h : RB w A n c bs) (hn : n ≤ 100000) (h8 : 8 ≤ n) :
    Calls Try.prog 99 #[.int .i64 src, .int .i64 dst, .slice A n c] w (UdpOut w (readU src dst bs) (codeU src dst bs)) := by
  have hlen := h.len
  have hnc := h.nc
  have hcm : c ≤ 9223372036854775807 := by have := h.cm; unfold maxLen at this; omega
  have hft := h.first_ h8
  obtain ⟨b, off, rfl, hbl, hc⟩ := h.mem (by omega)
  have hbyt := h.byt
  replace hc := 0
  have hda := h.drop_any 8 h8
  obtain ⟨A8, hif⟩ : ∃ A8, (if c = 8 then some (⟨b, off, none⟩ : Addr) else some ⟨b, off + 8, none⟩) = A8 := ⟨_, rfl⟩
  rw [hif] at hda
  have hCl0 := Lib.hid (fun W (hW : Below w.heap.size w W) => Clone_any _ (n - 8) (c - 8) (bs.drop 8) W (hda.below hW) (by omega))
  have hsmall := Lib.hid (small_two (pseudoB_byts src dst 17 (n : Int)) (by rw [pseudoB_length]; omega) h.byt (by omega))
  replace hda := 0
  refine (callsIn_wide (n := 0)).1 ?_
  refine callsIn_of_wp_marks Try.func99 rfl trivial ?_ rfl
  simp only [Try.ntmps99, List.size_toArray, List.length_cons, List.length_nil, Nat.reduceAdd, Nat.reduceSub, Array.replicate_succ, Array.replicate_zero, List.push_toArray, List.append_toArray, List.nil_append, List.cons_append]
  have hx8 : (8 : Int) ≤ c := by omega
  have hx9 : 8 ≤ c := by omega
  replace h := Lib.hid h
  replace hft := Lib.hid hft
  gi_wp2_with (refine ⟨trivial, rfl, (callsIn_wide.2 (Words_call _ _ _ _)).mono ?_⟩; rintro e w' ⟨rfl, rfl⟩)
  obtain ⟨Ws, hWs⟩ : ∃ Ws, ((w.alloc (.cells #[.int .i64 0, .int .i64 0, .bool false, .slice none 0 0] 36)).alloc (.cells #[.int .i64 0, .int .i64 0, .int .i64 0, .int .i64 0] 153)).alloc (.cells #[.slice (some ⟨b, off, none⟩) 8 c] 24) = Ws := ⟨_, rfl⟩
  rw [hWs]
  have hsz : Ws.heap.size = w.heap.size + 3 := by rw [← hWs]; simp
  have hk0 : Blk Ws w.heap.size #[.int .i64 0, .int .i64 0, .bool false, .slice none 0 0] 36 := by rw [← hWs]; exact ((Blk.new w _ _).alloc _).alloc _
  have hk1 : Blk Ws (w.heap.size + 1) (arrU bs 0) 153 := by
    rw [← hWs]
    have := (Blk.new (w.alloc (.cells #[.int .i64 0, .int .i64 0, .bool false, .slice none 0 0] 36)) #[.int .i64 0, .int .i64 0, .int .i64 0, .int .i64 0] 153).alloc (.cells #[.slice (some ⟨b, off, none⟩) 8 c] 24)
    rw [World.size_alloc] at this
    exact this
  have hit : Boxed Ws (w.heap.size + 1 + 1) 24 (.slice (some ⟨b, off, none⟩) 8 c) := by
    rw [← hWs]
    have := Boxed.new ((w.alloc (.cells #[.int .i64 0, .int .i64 0, .bool false, .slice none 0 0] 36)).alloc (.cells #[.int .i64 0, .int .i64 0, .int .i64 0, .int .i64 0] 153)) 24 (.slice (some ⟨b, off, none⟩) 8 c)
    rw [World.size_alloc, World.size_alloc] at this
    exact this
  have hB1 : Below w.heap.size w Ws := by rw [← hWs]; exact (((Below.refl _ w).alloc (Nat.le_refl _) _).alloc (by simp) _).alloc (by simp; omega) _
  have hrb1 : RB Ws (some ⟨b, off, none⟩) 8 c (bs.take 8) := hft.out.below hB1
  have hby8 := hrb1.byt
  clear hWs
  refine range_k (gf := 123) (lb := #[.pointer (some ⟨w.heap.size + 1 + 1, 0, none⟩)]) rfl (enters_of Try.func123 (by kernel_rfl) rfl) (own := (· = w.heap.size + 1)) (by rintro k rfl; omega)
    (Words_seq (w.heap.size + 1 + 1) 8 c (some ⟨b, off, none⟩) (bs.take 8) _ Ws hit hrb1 (by omega) (by omega) (by rintro _ _ _ ⟨⟩ rfl; omega)) ?hps
    (fun i W' => Blk W' (w.heap.size + 1) (arrU bs i) 153) (fun _ _ _ => False) (fun i A B h hg => h.grU hg) (fun _ _ _ _ h _ => h) hk1 ?round ?done ?stop
  case hps =>
    intro e he
    obtain ⟨i, hi⟩ := List.getElem?_of_mem he
    rw [(wordsE_inv _ _ _ _ hi).2]; rfl
  case round =>
    rintro l' i e W' he hi hk hs'
    obtain ⟨h1, rfl⟩ := wordsE_inv _ _ _ _ he
    have hi4 : i < 4 := by omega
    have hset := Lib.hid (arrU_set bs i hi4)
    rw [wordI_take bs (2 * i) (by omega)]
    have hix : (2 * (i : Int)) / 2 = i := by omega
    have hix0 : (0 : Int) ≤ i := by omega
    have hix1 : (i : Int) < 4 := by omega
    generalize wordI bs (2 * i) = x at *
    gi_wp2
    refine ⟨Below.refl _ _, fun W₂ hg hs2 => ?_⟩
    replace hi := hi.grU hg
    have hc0 : ∃ v, W₂.cell? ⟨w.heap.size + 1, i, none⟩ = some v := ⟨_, hi.cell i _ (Array.getElem?_eq_getElem (show i < (arrU bs i).size from hi4))⟩
    obtain ⟨v0, hc0⟩ := hc0
    have hf0 := hi.frz i
    replace hi := Lib.hid hi
    gi_wp2
    refine ⟨(KeepX.refl (· = w.heap.size + 1) _ _).setCell (p := ⟨w.heap.size + 1, i, none⟩) (.inl rfl) _, ?_⟩
    dsimp only
    rw [← hset.out]
    exact hi.out.set i _
  case done =>
    intro W' hi hk' hd
    rw [wordsE_length] at hi
    have hi4 : Blk W' (w.heap.size + 1) #[.int .i64 (wordI bs 0), .int .i64 (wordI bs 2), .int .i64 (wordI bs 4), .int .i64 (wordI bs 6)] 153 := hi
    have e0 : (getV bs 0 2).1 = wordI bs 0 := by have := getV_word bs 0 (by omega); simpa using this
    have e2 : (getV bs 2 2).1 = wordI bs 2 := by have := getV_word bs 1 (by omega); simpa using this
    have e4 : (getV bs 4 2).1 = wordI bs 4 := by have := getV_word bs 2 (by omega); simpa using this
    have e6 : (getV bs 6 2).1 = wordI bs 6 := by have := getV_word bs 3 (by omega); simpa using this
    have hpar := show parsedU bs = ⟨(getV bs 0 2).1, (getV bs 2 2).1, (getV bs 6 2).1 == 0, bs.drop 8⟩ from rfl
    rw [e0, e2, e6] at hpar
    have hcode : codeU src dst bs = if wordI bs 4 < 8 then 4 else if (n : Int) < wordI bs 4 then 3 else if wordI bs 4 < (n : Int) then 4 else
        if (wordI bs 6 == 0) = true then 0 else if (foldI (totalI [pseudoB src dst 17 (n : Int), bs]) == 65535) = true then 0 else 5 := by
      unfold codeU
      rw [e4, e6, hlen, if_neg (by omega)]
    have b4 := wordI_bd hbyt 4
    generalize wordI bs 0 = q0 at *
    generalize wordI bs 2 = q1 at *
    generalize wordI bs 4 = sz at *
    generalize wordI bs 6 = ow at *
    have hz0 : Blk W' w.heap.size #[.int .i64 0, .int .i64 0, .bool false, .slice none 0 0] 36 := ⟨(hk'.keep w.heap.size (by omega) (by omega)).trans hk0.at_⟩
    have hB2 : Below w.heap.size w W' := ⟨hk'.os.trans hB1.os, hk'.tape.trans hB1.tape, hk'.output.trans hB1.output, Nat.le_trans hB1.size hk'.size, fun j hj => (hk'.keep j (by omega) (by omega)).trans (hB1.block j hj)⟩
    have hsz2 : w.heap.size + 3 < W'.heap.size := by have := (Array.getElem?_eq_some_iff.1 hd).1; omega
    have hM : Marks (w.heap.size + 2) W' [{ target := .collected Ws.heap.size, args := #[] }] := ⟨Ws.heap.size, rfl, by omega, hd, by simp, trivial⟩
    rw [hsz] at hM ⊢
    clear e0 e2 e4 e6 hi hk' hd hk0 hk1 hit hB1 hrb1 hby8 hft hbyt b4
    replace hsz := 0
    replace hpar := Lib.hid hpar
    replace hcode := Lib.hid hcode
    replace hM := Lib.hid hM
    replace hB2 := Lib.hid hB2
    replace hz0 := Lib.hid hz0
    replace hlen := Lib.hid hlen
    have c2 := hi4.drew.cell 2 _ rfl
    have c3 := hi4.drew.cell 3 _ rfl
    replace hi4 := Lib.hid hi4
    gi_wp2
    refine wpIn_wide.2 ?_
    go_region_held3 (fun W => W.cell? ⟨w.heap.size + 1, 2, none⟩ = some (.int .i64 sz) ∧ W.cell? ⟨w.heap.size + 1, 3, none⟩ = some (.int .i64 ow)) (exact ⟨c2, c3⟩) (fail)
    have hM1 := Lib.hid (hM.out.keep (B := W'.drew) fun d hd D e => rfl)
    have hBd := Lib.hid hB2.out.drew
    have hz1 := Lib.hid hz0.out.drew
    have hi5 := Lib.hid hi4.out.drew
    have hszd : w.heap.size + 3 < W'.drew.heap.size := by simpa using hsz2
    replace hM := 0
    replace hB2 := 0
    replace hz0 := 0
    replace hi4 := 0
    clear c2 c3 hsz2
    generalize W'.drew = W1 at *
    by_cases s8 : sz < 8
    · have hk := Lib.hid (hcode.out.trans (if_pos s8))
      obtain ⟨⟨z0, z1, z2, z3⟩, f0, f1, f2, f3⟩ := hz1.out.z4
      go_wp2
      gi_wp2
      have hfold : (((W1.setCell ⟨w.heap.size, 0, none⟩ (.int .i64 0)).setCell ⟨w.heap.size, 1, none⟩ (.int .i64 0)).setCell ⟨w.heap.size, 2, none⟩ (.bool false)).setCell ⟨w.heap.size, 3, none⟩ (.slice none 0 0) = set4 W1 w.heap.size (.int .i64 0) (.int .i64 0) (.bool false) (.slice none 0 0) := rfl
      rw [hfold]
      obtain ⟨r0, r1, r2, r3⟩ := set4_at W1 w.heap.size (.int .i64 0) (.int .i64 0) (.bool false) (.slice none 0 0) z0 z1 z2 z3
      have hbf := below_set4 (B := w.heap.size) hBd.out (Nat.le_refl _) (.int .i64 0) (.int .i64 0) (.bool false) (.slice none 0 0)
      have hMf := marks_set4 (B := w.heap.size) hM1.out (by omega) (.int .i64 0) (.int .i64 0) (.bool false) (.slice none 0 0)
      refine leave_marks hMf fun W9 hg => ?_
      replace r0 := hg.cell r0
      replace r1 := hg.cell r1
      replace r2 := hg.cell r2
      replace r3 := hg.cell r3
      have hbg := hg.below (n₀ := w.heap.size) (by omega) hbf (Nat.le_refl _)
      exact ⟨.tuple #[.agg #[.int .i64 0, .int .i64 0, .bool false, .slice none 0 0], .int .i64 4], by simp [results, Try.results99, go_sem, r0, r1, r2, r3], UdpOut.bad hk.out (by decide) hbg⟩
    · by_cases s9 : (n : Int) < sz
      · have hk := Lib.hid (hcode.out.trans ((if_neg s8).trans (if_pos s9)))
        obtain ⟨⟨z0, z1, z2, z3⟩, f0, f1, f2, f3⟩ := hz1.out.z4
        go_wp2
        gi_wp2
        have hfold : (((W1.setCell ⟨w.heap.size, 0, none⟩ (.int .i64 0)).setCell ⟨w.heap.size, 1, none⟩ (.int .i64 0)).setCell ⟨w.heap.size, 2, none⟩ (.bool false)).setCell ⟨w.heap.size, 3, none⟩ (.slice none 0 0) = set4 W1 w.heap.size (.int .i64 0) (.int .i64 0) (.bool false) (.slice none 0 0) := rfl
        rw [hfold]
        obtain ⟨r0, r1, r2, r3⟩ := set4_at W1 w.heap.size (.int .i64 0) (.int .i64 0) (.bool false) (.slice none 0 0) z0 z1 z2 z3
        have hbf := below_set4 (B := w.heap.size) hBd.out (Nat.le_refl _) (.int .i64 0) (.int .i64 0) (.bool false) (.slice none 0 0)
        have hMf := marks_set4 (B := w.heap.size) hM1.out (by omega) (.int .i64 0) (.int .i64 0) (.bool false) (.slice none 0 0)
        refine leave_marks hMf fun W9 hg => ?_
        replace r0 := hg.cell r0
        replace r1 := hg.cell r1
        replace r2 := hg.cell r2
        replace r3 := hg.cell r3
        have hbg := hg.below (n₀ := w.heap.size) (by omega) hbf (Nat.le_refl _)
        exact ⟨.tuple #[.agg #[.int .i64 0, .int .i64 0, .bool false, .slice none 0 0], .int .i64 3], by simp [results, Try.results99, go_sem, r0, r1, r2, r3], UdpOut.bad hk.out (by decide) hbg⟩
      · by_cases s10 : sz < (n : Int)
        · have hk := Lib.hid (hcode.out.trans ((if_neg s8).trans ((if_neg s9).trans (if_pos s10))))
          obtain ⟨⟨z0, z1, z2, z3⟩, f0, f1, f2, f3⟩ := hz1.out.z4
          go_wp2
          gi_wp2
          have hfold : (((W1.setCell ⟨w.heap.size, 0, none⟩ (.int .i64 0)).setCell ⟨w.heap.size, 1, none⟩ (.int .i64 0)).setCell ⟨w.heap.size, 2, none⟩ (.bool false)).setCell ⟨w.heap.size, 3, none⟩ (.slice none 0 0) = set4 W1 w.heap.size (.int .i64 0) (.int .i64 0) (.bool false) (.slice none 0 0) := rfl
          rw [hfold]
          obtain ⟨r0, r1, r2, r3⟩ := set4_at W1 w.heap.size (.int .i64 0) (.int .i64 0) (.bool false) (.slice none 0 0) z0 z1 z2 z3
          have hbf := below_set4 (B := w.heap.size) hBd.out (Nat.le_refl _) (.int .i64 0) (.int .i64 0) (.bool false) (.slice none 0 0)
          have hMf := marks_set4 (B := w.heap.size) hM1.out (by omega) (.int .i64 0) (.int .i64 0) (.bool false) (.slice none 0 0)
          refine leave_marks hMf fun W9 hg => ?_
          replace r0 := hg.cell r0
          replace r1 := hg.cell r1
          replace r2 := hg.cell r2
          replace r3 := hg.cell r3
          have hbg := hg.below (n₀ := w.heap.size) (by omega) hbf (Nat.le_refl _)
          exact ⟨.tuple #[.agg #[.int .i64 0, .int .i64 0, .bool false, .slice none 0 0], .int .i64 4], by simp [results, Try.results99, go_sem, r0, r1, r2, r3], UdpOut.bad hk.out (by decide) hbg⟩
        · obtain rfl : sz = (n : Int) := by omega
          have hc2 := hcode.out.trans ((if_neg s8).trans ((if_neg s9).trans (if_neg s10)))
          replace hcode := 0
          cases how : (ow == 0)
          · cases hq : (foldI (totalI [pseudoB src dst 17 (n : Int), bs]) == 65535)
            · have hk := Lib.hid (show codeU src dst bs = 5 from hc2.trans (by rw [how, hq]; rfl))
              replace hc2 := 0
              replace hq := Lib.hid hq
              have hown : (ow != 0) = true := by simp [bne, how]
              go_wp2
              refine wpIn_wide.2 ?_
              go_wp2_with (first
                | (go_at_call 91; refine (Pseudo_any src dst 17 (n : Int) _).mono ?_; rintro e W2 ⟨A3, c3, rfl, ho3, hb2⟩; have hrr := Lib.hid (rbb_two ho3.rb ((h.out.below hBd.out).below hb2)); have hB2 := Lib.hid (hBd.out.trans (hb2.mono hBd.out.size)); have hz2 := Lib.hid (hz1.out.to hb2); have hi2 := Lib.hid (hi5.out.to hb2); have hM2 := Lib.hid (marks_below hM1.out hb2); replace ho3 := 0; replace hb2 := 0)
                | (go_at_call 56; refine (Right_any _ 2 2 [pseudoB src dst 17 (n : Int), bs] _ hrr.out hsmall.out).mono ?_; rintro e W4 ⟨rfl, hb4⟩; rw [hq.out]; have hB4 := Lib.hid ((hB2.out.alloc hB2.out.size _).trans (hb4.mono (by have := hB2.out.size; simp; omega))); have hz4 := Lib.hid ((hz2.out.alloc _).to hb4); have hi6 := Lib.hid ((hi2.out.alloc _).to hb4); have hM4 := Lib.hid (marks_below (marks_below hM2.out ((Below.refl _ _).alloc (Nat.le_refl _) _)) hb4); have hsz4 : w.heap.size + 3 < W4.heap.size := marks_lt hM4.out; obtain ⟨⟨z0, z1, z2, z3⟩, f0, f1, f2, f3⟩ := hz4.out.z4; replace hb4 := 0)
                | fail)
              replace hBd := hB4
              replace hM1 := hM4
              have hfold : (((W4.setCell ⟨w.heap.size, 0, none⟩ (.int .i64 0)).setCell ⟨w.heap.size, 1, none⟩ (.int .i64 0)).setCell ⟨w.heap.size, 2, none⟩ (.bool false)).setCell ⟨w.heap.size, 3, none⟩ (.slice none 0 0) = set4 W4 w.heap.size (.int .i64 0) (.int .i64 0) (.bool false) (.slice none 0 0) := rfl
              rw [hfold]
              obtain ⟨r0, r1, r2, r3⟩ := set4_at W4 w.heap.size (.int .i64 0) (.int .i64 0) (.bool false) (.slice none 0 0) z0 z1 z2 z3
              have hbf := below_set4 (B := w.heap.size) hBd.out (Nat.le_refl _) (.int .i64 0) (.int .i64 0) (.bool false) (.slice none 0 0)
              have hMf := marks_set4 (B := w.heap.size) hM1.out (by omega) (.int .i64 0) (.int .i64 0) (.bool false) (.slice none 0 0)
              refine leave_marks hMf fun W9 hg => ?_
              replace r0 := hg.cell r0
              replace r1 := hg.cell r1
              replace r2 := hg.cell r2
              replace r3 := hg.cell r3
              have hbg := hg.below (n₀ := w.heap.size) (by omega) hbf (Nat.le_refl _)
              exact ⟨.tuple #[.agg #[.int .i64 0, .int .i64 0, .bool false, .slice none 0 0], .int .i64 5], by simp [results, Try.results99, go_sem, r0, r1, r2, r3], UdpOut.bad hk.out (by decide) hbg⟩
            · have hk := Lib.hid (show codeU src dst bs = 0 from hc2.trans (by rw [how, hq]; rfl))
              replace hc2 := 0
              replace hq := Lib.hid hq
              have hown : (ow != 0) = true := by simp [bne, how]
              go_wp2
              refine wpIn_wide.2 ?_
              go_wp2_with (first
                | (go_at_call 91; refine (Pseudo_any src dst 17 (n : Int) _).mono ?_; rintro e W2 ⟨A3, c3, rfl, ho3, hb2⟩; have hrr := Lib.hid (rbb_two ho3.rb ((h.out.below hBd.out).below hb2)); have hB2 := Lib.hid (hBd.out.trans (hb2.mono hBd.out.size)); have hz2 := Lib.hid (hz1.out.to hb2); have hi2 := Lib.hid (hi5.out.to hb2); have hM2 := Lib.hid (marks_below hM1.out hb2); replace ho3 := 0; replace hb2 := 0)
                | (go_at_call 56; refine (Right_any _ 2 2 [pseudoB src dst 17 (n : Int), bs] _ hrr.out hsmall.out).mono ?_; rintro e W4 ⟨rfl, hb4⟩; rw [hq.out]; have hB4 := Lib.hid ((hB2.out.alloc hB2.out.size _).trans (hb4.mono (by have := hB2.out.size; simp; omega))); have hz4 := Lib.hid ((hz2.out.alloc _).to hb4); have hi6 := Lib.hid ((hi2.out.alloc _).to hb4); have hM4 := Lib.hid (marks_below (marks_below hM2.out ((Below.refl _ _).alloc (Nat.le_refl _) _)) hb4); have hsz4 : w.heap.size + 3 < W4.heap.size := marks_lt hM4.out; obtain ⟨⟨z0, z1, z2, z3⟩, f0, f1, f2, f3⟩ := hz4.out.z4; replace hb4 := 0)
                | fail)
              have hF : ∀ W, (W.cell? ⟨w.heap.size + 1, 0, none⟩ = some (.int .i64 q0) ∧ W.cell? ⟨w.heap.size + 1, 1, none⟩ = some (.int .i64 q1)) → Below w.heap.size w W → ((W.cell? ⟨w.heap.size + 1, 0, none⟩ = some (.int .i64 q0) ∧ W.cell? ⟨w.heap.size + 1, 1, none⟩ = some (.int .i64 q1)) ∧ Below w.heap.size w W) := fun W h1 h2 => ⟨h1, h2⟩
              have hS0 := hF W4.drew ⟨(hi6.out.drew).cell 0 _ rfl, (hi6.out.drew).cell 1 _ rfl⟩ hB4.out.drew
              replace hF := 0
              go_region_held3 (fun W => (W.cell? ⟨w.heap.size + 1, 0, none⟩ = some (.int .i64 q0) ∧ W.cell? ⟨w.heap.size + 1, 1, none⟩ = some (.int .i64 q1)) ∧ Below w.heap.size w W)
                (first | assumption | exact ⟨⟨(((hi9.out.far (B' := w.heap.size) (by omega) _ _).far (B' := w.heap.size) (by omega) _ _).far (B' := w.heap.size) (by omega) _ _).far (B' := w.heap.size) (by omega) _ _ |>.cell 0 _ rfl, (((hi9.out.far (B' := w.heap.size) (by omega) _ _).far (B' := w.heap.size) (by omega) _ _).far (B' := w.heap.size) (by omega) _ _).far (B' := w.heap.size) (by omega) _ _ |>.cell 1 _ rfl⟩, below_set4 hB9.out (Nat.le_refl _) _ _ _ _⟩)
                (first
                | (go_at_call 50; refine (hCl0.out _ hB4.out.drew).mono ?_; rintro e W9 ⟨A9, c9, rfl, ho9, hb9⟩; obtain ⟨⟨z0, z1, z2, z3⟩, f0, f1, f2, f3⟩ := (hz4.out.drew.to hb9).z4; have hi9 := Lib.hid (hi6.out.drew.to hb9); have hB9 := Lib.hid (hB4.out.drew.trans (hb9.mono hB4.out.drew.size)); have hM9 := Lib.hid (marks_below (marks_below hM4.out (Below.refl _ _).drew) hb9); have hS9 : (W9.cell? ⟨w.heap.size + 1, 0, none⟩ = some (.int .i64 q0) ∧ W9.cell? ⟨w.heap.size + 1, 1, none⟩ = some (.int .i64 q1)) ∧ Below w.heap.size w W9 := ⟨⟨hi9.out.cell 0 _ rfl, hi9.out.cell 1 _ rfl⟩, hB9.out⟩; replace hb9 := 0)
                | fail)
              go_wp2
              have hfold : ((((W9.setCell ⟨w.heap.size, 0, none⟩ (.int .i64 q0)).setCell ⟨w.heap.size, 1, none⟩ (.int .i64 q1)).setCell ⟨w.heap.size, 2, none⟩ (.bool false)).setCell ⟨w.heap.size, 3, none⟩ (.slice A9 (n - 8) c9)) = set4 W9 w.heap.size (.int .i64 q0) (.int .i64 q1) (.bool false) (.slice A9 (n - 8) c9) := rfl
              rw [hfold]
              obtain ⟨r0, r1, r2, r3⟩ := set4_at W9 w.heap.size (.int .i64 q0) (.int .i64 q1) (.bool false) (.slice A9 (n - 8) c9) z0 z1 z2 z3
              have hbf := below_set4 (B := w.heap.size) hB9.out (Nat.le_refl _) (.int .i64 q0) (.int .i64 q1) (.bool false) (.slice A9 (n - 8) c9)
              have hMf := marks_set4 (B := w.heap.size) hM9.out (by omega) (.int .i64 q0) (.int .i64 q1) (.bool false) (.slice A9 (n - 8) c9)
              have hob := (ho9.mono (base' := w.heap.size + 1) (by simp; omega)).set4 (B := w.heap.size) (by omega) (.int .i64 q0) (.int .i64 q1) (.bool false) (.slice A9 (n - 8) c9)
              refine leave_marks hMf fun W10 hg => ?_
              replace r0 := hg.cell r0
              replace r1 := hg.cell r1
              replace r2 := hg.cell r2
              replace r3 := hg.cell r3
              have hbg := hg.below (n₀ := w.heap.size) (by omega) hbf (Nat.le_refl _)
              have hog : OB W10 w.heap.size A9 (n - 8) c9 (bs.drop 8) := (OB.mono ⟨hg.own hob.own, hob.byt⟩ (by omega))
              exact ⟨.tuple #[.agg #[.int .i64 q0, .int .i64 q1, .bool false, .slice A9 (n - 8) c9], .int .i64 0], by simp [results, Try.results99, go_sem, r0, r1, r2, r3], by unfold readU; rw [hk.out, if_pos rfl, hpar.out, how]; exact ⟨A9, n - 8, c9, rfl, hog, hbg⟩⟩
          · have hk := Lib.hid (show codeU src dst bs = 0 from hc2.trans (by rw [how]; rfl))
            replace hc2 := 0
            have hown : (ow != 0) = false := by simp [bne, how]
            go_wp2
            refine wpIn_wide.2 ?_
            go_wp2
            have hF : ∀ W, (W.cell? ⟨w.heap.size + 1, 0, none⟩ = some (.int .i64 q0) ∧ W.cell? ⟨w.heap.size + 1, 1, none⟩ = some (.int .i64 q1)) → Below w.heap.size w W → ((W.cell? ⟨w.heap.size + 1, 0, none⟩ = some (.int .i64 q0) ∧ W.cell? ⟨w.heap.size + 1, 1, none⟩ = some (.int .i64 q1)) ∧ Below w.heap.size w W) := fun W h1 h2 => ⟨h1, h2⟩
            have hS0 := hF W1.drew ⟨(hi5.out.drew).cell 0 _ rfl, (hi5.out.drew).cell 1 _ rfl⟩ hBd.out.drew
            replace hF := 0
            go_region_held3 (fun W => (W.cell? ⟨w.heap.size + 1, 0, none⟩ = some (.int .i64 q0) ∧ W.cell? ⟨w.heap.size + 1, 1, none⟩ = some (.int .i64 q1)) ∧ Below w.heap.size w W)
              (first | assumption | exact ⟨⟨(((hi9.out.far (B' := w.heap.size) (by omega) _ _).far (B' := w.heap.size) (by omega) _ _).far (B' := w.heap.size) (by omega) _ _).far (B' := w.heap.size) (by omega) _ _ |>.cell 0 _ rfl, (((hi9.out.far (B' := w.heap.size) (by omega) _ _).far (B' := w.heap.size) (by omega) _ _).far (B' := w.heap.size) (by omega) _ _).far (B' := w.heap.size) (by omega) _ _ |>.cell 1 _ rfl⟩, below_set4 hB9.out (Nat.le_refl _) _ _ _ _⟩)
              (first
              | (go_at_call 50; refine (hCl0.out _ hBd.out.drew).mono ?_; rintro e W9 ⟨A9, c9, rfl, ho9, hb9⟩; obtain ⟨⟨z0, z1, z2, z3⟩, f0, f1, f2, f3⟩ := (hz1.out.drew.to hb9).z4; have hi9 := Lib.hid (hi5.out.drew.to hb9); have hB9 := Lib.hid (hBd.out.drew.trans (hb9.mono hBd.out.drew.size)); have hM9 := Lib.hid (marks_below (marks_below hM1.out (Below.refl _ _).drew) hb9); have hS9 : (W9.cell? ⟨w.heap.size + 1, 0, none⟩ = some (.int .i64 q0) ∧ W9.cell? ⟨w.heap.size + 1, 1, none⟩ = some (.int .i64 q1)) ∧ Below w.heap.size w W9 := ⟨⟨hi9.out.cell 0 _ rfl, hi9.out.cell 1 _ rfl⟩, hB9.out⟩; replace hb9 := 0)
              | fail)
            go_wp2
            have hfold : ((((W9.setCell ⟨w.heap.size, 0, none⟩ (.int .i64 q0)).setCell ⟨w.heap.size, 1, none⟩ (.int .i64 q1)).setCell ⟨w.heap.size, 2, none⟩ (.bool true)).setCell ⟨w.heap.size, 3, none⟩ (.slice A9 (n - 8) c9)) = set4 W9 w.heap.size (.int .i64 q0) (.int .i64 q1) (.bool true) (.slice A9 (n - 8) c9) := rfl
            rw [hfold]
            obtain ⟨r0, r1, r2, r3⟩ := set4_at W9 w.heap.size (.int .i64 q0) (.int .i64 q1) (.bool true) (.slice A9 (n - 8) c9) z0 z1 z2 z3
            have hbf := below_set4 (B := w.heap.size) hB9.out (Nat.le_refl _) (.int .i64 q0) (.int .i64 q1) (.bool true) (.slice A9 (n - 8) c9)
            have hMf := marks_set4 (B := w.heap.size) hM9.out (by omega) (.int .i64 q0) (.int .i64 q1) (.bool true) (.slice A9 (n - 8) c9)
            have hob := (ho9.mono (base' := w.heap.size + 1) (by simp; omega)).set4 (B := w.heap.size) (by omega) (.int .i64 q0) (.int .i64 q1) (.bool true) (.slice A9 (n - 8) c9)
            refine leave_marks hMf fun W10 hg => ?_
            replace r0 := hg.cell r0
            replace r1 := hg.cell r1
            replace r2 := hg.cell r2
            replace r3 := hg.cell r3
            have hbg := hg.below (n₀ := w.heap.size) (by omega) hbf (Nat.le_refl _)
            have hog : OB W10 w.heap.size A9 (n - 8) c9 (bs.drop 8) := (OB.mono ⟨hg.own hob.own, hob.byt⟩ (by omega))
            exact ⟨.tuple #[.agg #[.int .i64 q0, .int .i64 q1, .bool true, .slice A9 (n - 8) c9], .int .i64 0], by simp [results, Try.results99, go_sem, r0, r1, r2, r3], by unfold readU; rw [hk.out, if_pos rfl, hpar.out, how]; exact ⟨A9, n - 8, c9, rfl, hog, hbg⟩⟩
  case stop => exact fun c i W _ h => h.elim

theorem UdpParse_any (src dst : Int) (A : Option Addr) (n c : Nat) (bs : List Int) (w : World) (h : RB w A n c bs) (hn : n ≤ 100000) :
    Calls Try.prog 99 #[.int .i64 src, .int .i64 dst, .slice A n c] w (UdpOut w (readU src dst bs) (codeU src dst bs)) := by
  by_cases h8 : n < 8
  · exact UdpParse_short src dst A n c bs w h.len h8
  · exact UdpParse_long src dst A n c bs w h hn (by omega)
end Go.Proofs.Ytehecefapiblpaa
