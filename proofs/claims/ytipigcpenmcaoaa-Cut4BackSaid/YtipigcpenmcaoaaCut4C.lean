/- Fragments of IPv4 (cut4): the options that go with each fragment: walk of Copied. -/
import Derived.Test.YtipigcpenmcaoaaCut4P
import Derived.Test.YtipigcpenmcaoaaTcpO
import Derived.Test.YtipigcpenmcaoaaQuadsIn
import Derived.RangeFuncNested
set_option linter.unusedVariables false
namespace Go.Proofs.Ytipigcpenmcaoaa
open Go Go.RowKit
attribute [local go_sem] Oper.semAt_some

def optAt (bs : List Int) (a : Nat) : List Int := if 128 ≤ bs[a]?.getD 0 then (bs.drop a).take (optL bs a) else []
def optsOf (bs : List Int) (l : List Nat) : List Int := l.flatMap (optAt bs)
def pad4 (xs : List Int) : List Int := xs ++ List.replicate ((4 - xs.length % 4) % 4) 0
def copiedV (bs : List Int) : List Int := pad4 (optsOf bs (places bs))
theorem and128 (x : Int) (h0 : 0 ≤ x) (h1 : x < 256) : bits .and .u8 x 128 = if 128 ≤ x then 128 else 0 := by
  obtain ⟨n, rfl⟩ := Int.eq_ofNat_of_zero_le h0
  have hn : n < 256 := by omega
  have : ∀ m : Fin 256, bits .and .u8 ((m.val : Nat) : Int) 128 = if (128 : Int) ≤ ((m.val : Nat) : Int) then 128 else 0 := by decide +kernel
  exact this ⟨n, hn⟩
theorem pad4_done {xs : List Int} (h : xs.length % 4 = 0) : pad4 xs = xs := by unfold pad4; rw [h]; simp
theorem pad4_more {xs : List Int} (h : xs.length % 4 ≠ 0) : pad4 (xs ++ [0]) = pad4 xs := by
  unfold pad4
  rw [List.append_assoc, List.length_append, List.length_singleton]
  congr 1
  have : (4 - xs.length % 4) % 4 = (4 - (xs.length + 1) % 4) % 4 + 1 := by omega
  rw [this, List.replicate_succ]; rfl
theorem pad4_len (xs : List Int) : (pad4 xs).length % 4 = 0 ∧ (pad4 xs).length ≤ xs.length + 3 := by
  unfold pad4
  rw [List.length_append, List.length_replicate]
  omega
theorem RB.cutP {w : World} {b off n c : Nat} {bs : List Int} (h : RB w (some ⟨b, off, none⟩) n c bs) (a s : Nat) (hs : a + s ≤ n) : RB w (some ⟨b, off + a, none⟩) s s ((bs.drop a).take s) := by
  have h1 := (h.drop a (by omega)).first_ (show s ≤ n - a by omega)
  have := h.cm
  have := h.nc
  exact ⟨h1.len, Nat.le_refl _, by omega, h1.byt, (fun e => by cases e), h1.mem⟩
theorem optsOf_take {bs : List Int} {l : List Nat} {i a : Nat} (h : l[i]? = some a) : optsOf bs (l.take (i + 1)) = optsOf bs (l.take i) ++ optAt bs a := by
  unfold optsOf
  rw [List.take_add_one, h]
  simp
theorem places_len (bs : List Int) : (places bs).length ≤ bs.length + 1 := placesF_length bs _ _
def CopOut (w : World) (bs : List Int) (e : Ending) (w' : World) : Prop := ∃ A2 n2 c2, e = .returned (.slice A2 n2 c2) ∧ OB w' w.heap.size A2 n2 c2 (copiedV bs) ∧ Below w.heap.size w w'

set_option maxRecDepth 100000 in
set_option maxHeartbeats 4000000 in
theorem Copied_any (A : Option Addr) (n c : Nat) (bs : List Int) (w : World) (h : RB w A n c bs) (hn : n ≤ 1000) :
    Calls Try.prog 18 #[.slice A n c] w (CopOut w bs) := by
  have hlen := h.len
  obtain ⟨b, off, hA⟩ : ∃ b off, 0 < n → (A = some ⟨b, off, none⟩ ∧ b < w.heap.size) := by
    by_cases hp : 0 < n
    · obtain ⟨b, off, e, hl, _⟩ := h.mem hp
      exact ⟨b, off, fun _ => ⟨e, hl⟩⟩
    · exact ⟨0, 0, fun h => absurd h hp⟩
  have hpl := fun p (hp : p ∈ places bs) => places_lt hp
  refine (callsIn_wide (n := 0)).1 ?_
  refine callsIn_of_wp_marks Try.func18 rfl trivial ?_ rfl
  simp only [Try.ntmps18, List.size_toArray, List.length_cons, List.length_nil, Nat.reduceAdd, Nat.reduceSub, Array.replicate_succ, Array.replicate_zero, List.push_toArray, List.append_toArray, List.nil_append, List.cons_append]
  replace h := Lib.hid h
  gi_wp2_with (refine ⟨trivial, rfl, (callsIn_wide.2 (Options_call _ _ _ _)).mono ?_⟩; rintro e w' ⟨rfl, rfl⟩)
  obtain ⟨Ws, hWs⟩ : ∃ Ws, (w.alloc (.cells #[.slice none 0 0] 22)).alloc (.cells #[.slice A n c] 22) = Ws := ⟨_, rfl⟩
  rw [hWs]
  have hsz1 : w.heap.size + 2 ≤ Ws.heap.size := by rw [← hWs]; simp
  have hsz3 : Ws.heap.size ≤ w.heap.size + 2 := by rw [← hWs]; simp
  have x1 : Boxed Ws w.heap.size 22 (.slice none 0 0) := by
    rw [← hWs]
    exact (Boxed.new w 22 (.slice none 0 0)).alloc _
  have x2 : Boxed Ws (w.heap.size + 1) 22 (.slice A n c) := by
    rw [← hWs]
    have := Boxed.new (w.alloc (.cells #[.slice none 0 0] 22)) 22 (.slice A n c)
    rwa [World.size_alloc] at this
  have hB1 : Below w.heap.size w Ws := by
    rw [← hWs]
    exact ((Below.refl _ w).alloc (Nat.le_refl _) _).alloc (by simp) _
  have hrb := h.out.below hB1
  clear hWs
  have hpn := places_len bs
  rw [hlen] at hpn
  refine range_k (gf := 105) (lb := #[.pointer (some ⟨w.heap.size + 1, 0, none⟩)]) rfl (enters_of Try.func105 (by kernel_rfl) rfl) (own := fun k => k = w.heap.size) (by intro k hk; omega)
    (Options_seq (w.heap.size + 1) n c b off A bs _ Ws x2 hrb (fun hp => (hA hp).1) (by omega) (by omega) (fun hp => by have := (hA hp).2; omega)) ?hps
    (fun i W' => ∃ A3 n3 c3, i ≤ (places bs).length ∧ Boxed W' w.heap.size 22 (.slice A3 n3 c3) ∧ OB W' (Ws.heap.size + 2) A3 n3 c3 (optsOf bs ((places bs).take i)) ∧ n3 ≤ i * 1000)
    (fun _ _ _ => False)
    (fun i A B h hg => by obtain ⟨A3, n3, c3, h0, h1, h2, h3⟩ := h; exact ⟨A3, n3, c3, h0, hg.boxed h1, h2.gr hg, h3⟩) (fun _ _ _ _ h _ => h)
    ⟨none, 0, 0, Nat.zero_le _, x1, OB.nil _ _, by omega⟩ ?round ?done ?stop
  case hps =>
    intro e he
    unfold optE at he
    obtain ⟨a, _, rfl⟩ := List.mem_map.1 he
    rfl
  case stop =>
    rintro cd i W' hile h hk' hd
    exact h.elim
  case round =>
    rintro l' i e W' he hi hk hs'
    unfold optE at he
    rw [List.getElem?_map] at he
    obtain ⟨a, ha, rfl⟩ := Option.map_eq_some_iff.1 he
    have hlt := (List.getElem?_eq_some_iff.1 ha).1
    obtain ⟨hp1, hp2, hp3⟩ := hpl a (List.mem_of_getElem? ha)
    rw [hlen] at hp1 hp3
    obtain ⟨rfl, hbl⟩ := hA (by omega)
    gi_wp2
    refine ⟨Below.refl _ _, fun W₂ hg hs2 => ?_⟩
    obtain ⟨A3, n3, c3, hi0, i1, ho3, hn3⟩ := hi
    replace i1 := hg.boxed i1
    replace ho3 := ho3.gr hg
    have hr2 : RB W₂ (some ⟨b, off, none⟩) n c bs := hg.rb (hk.rb hrb (by omega) (by omega))
    obtain ⟨_, _, e', _, hc⟩ := hr2.mem (by omega)
    cases e'
    have hc0 := hc a hp3
    have hx0 := hr2.byt (bs[a]?.getD 0) (by rw [List.getElem?_eq_getElem (by omega)]; exact List.getElem_mem _)
    have hcut := hr2.cutP a (optL bs a) hp1
    have htk := optsOf_take (bs := bs) ha
    unfold optAt at htk
    have hand := and128 _ hx0.1 (by have := hx0.2; omega)
    have hsz2 : Ws.heap.size + 2 ≤ W₂.heap.size := by have := hg.size; omega
    generalize bs[a]?.getD 0 = x at *
    generalize optL bs a = s at *
    generalize (bs.drop a).take s = dt at *
    have hs0 : (0 : Int) < s := by omega
    have c1 := i1.cell
    have f1 := i1.frozen
    replace hcut := Lib.hid hcut
    replace ho3 := Lib.hid ho3
    have hkx := Lib.hid (KeepX.refl (fun k => k = w.heap.size) (Ws.heap.size + 2) W₂)
    clear hc hs2 he hk hg hr2
    by_cases hx : 128 ≤ x
    · rw [if_pos hx] at htk hand
      replace htk := Lib.hid htk
      have hl3 := Lib.hid i1
      gi_wp2_with (first
        | (gi_at_builtin; refine wpListIn_append_bytes _ rfl (.tmp 15) (.tmp 16) rfl rfl rfl ho3.out hcut.out (by omega) (by omega) ?_; intro A4 c4 w4 ho4 hg4 hr4; have i4 := Boxed.kept hl3.out hg4 (fun e => by have := (ho3.out.blk e.symm).1; omega); have c1 := i4.cell; have f1 := i4.frozen; have hi4 := Lib.hid i4; have hkx4 := Lib.hid (hkx.out.grown hg4 hsz2 (fun k hk => .inr (by have := (ho3.out.blk hk).1; omega))); replace ho4 := Lib.hid ho4; clear i4 hr4)
        | fail)
      exact ⟨hkx4.out.setCell (p := ⟨w.heap.size, 0, none⟩) (.inl rfl) _, by omega, A4, n3 + s, c4, hi4.out.set _, by rw [htk.out]; exact ho4.out.set_low (by omega) 0 _, by omega⟩
    · rw [if_neg hx, List.append_nil] at htk
      rw [if_neg hx] at hand
      gi_wp2
      exact ⟨hkx.out, by omega, A3, n3, c3, i1, by rw [htk]; exact ho3.out, by omega⟩
  case done =>
    rintro W' ⟨A3, n3, c3, hi0, i1, ho3, hn3⟩ hk' hd
    rw [optE_length, List.take_length] at ho3
    rw [optE_length] at hn3
    have hBW := Lib.hid (show Below w.heap.size w W' from ⟨hk'.os.trans hB1.os, hk'.tape.trans hB1.tape, hk'.output.trans hB1.output, Nat.le_trans hB1.size hk'.size, fun j hj => (hk'.keep j (by omega) (by omega)).trans (hB1.block j hj)⟩)
    have hszd : Ws.heap.size < W'.heap.size := (Array.getElem?_eq_some_iff.1 hd).1
    have hcop := Lib.hid (show pad4 (optsOf bs (places bs)) = copiedV bs from rfl)
    have hpn2 : n3 ≤ 1100000 := by omega
    replace ho3 := Lib.hid ho3
    replace i1 := Lib.hid i1
    replace hd := Lib.hid hd
    clear hk' hB1 hrb x1 x2 hpl
    gi_wp2
    refine wpIn_wide.2 ?_
    go_loopw [] (fun wr => ∃ (A4 : Option Addr) (n4 c4 : Nat) (xs : List Int), Boxed wr w.heap.size 22 (.slice A4 n4 c4) ∧ OB wr (Ws.heap.size + 1) A4 n4 c4 xs ∧ pad4 xs = copiedV bs ∧ n4 ≤ 1100000 + 4 - (4 - n4 % 4) % 4 ∧ wr.heap[Ws.heap.size]? = some (.deferred (some [])) ∧ Below w.heap.size w wr ∧ Ws.heap.size + 1 ≤ wr.heap.size) (fun wr => match wr.cell? ⟨w.heap.size, 0, none⟩ with | some (.slice _ n _) => (4 - n % 4) % 4 | _ => 0)
    case atStart => exact ⟨A3, n3, c3, _, i1.out, ho3.out.mono (by omega), hcop.out, by omega, hd.out, hBW.out, hszd⟩
    case round =>
      obtain ⟨A4, n4, c4, xs, i4, ho4, hpd, hn4, hd4, hB4, hz4⟩ := hrel
      have c4' := i4.cell
      have f4 := i4.frozen
      have hl4 := ho4.len
      have hi4 := Lib.hid i4
      by_cases h0 : n4 % 4 = 0
      · have ht : ((n4 : Int) % 4 != 0) = false := by simp; omega
        rw [pad4_done (by omega)] at hpd
        subst hpd
        go_wp2
        gi_wp2
        refine leave_marks (N := w.heap.size) ⟨Ws.heap.size, rfl, by omega, hd4, by simp, trivial⟩ fun W3 hg => ?_
        refine ⟨.slice A4 n4 c4, by simp [results, Try.results18, go_sem], A4, n4, c4, rfl, ?_, hg.below (Nat.le_refl _) hB4 (Nat.le_refl _)⟩
        exact (ho4.gr hg).mono (by omega)
      · have ht : ((n4 : Int) % 4 != 0) = true := by simp; omega
        have hli := Lib.hid (RB.lit wr 5 [0] (Byts.one (by omega) (by omega)) (by simp))
        have hoA := Lib.hid (ho4.alloc (.cells #[.int .u8 0] 5))
        have hiA := Lib.hid (i4.alloc (.cells #[.int .u8 0] 5))
        have hBA := Lib.hid (hB4.alloc hB4.size (.cells #[.int .u8 0] 5))
        have hdA := Lib.hid (show (wr.alloc (.cells #[.int .u8 0] 5)).heap[Ws.heap.size]? = some (.deferred (some [])) from (((Below.refl _ wr).alloc (Nat.le_refl _) _).block _ hz4).trans hd4)
        replace hpd := Lib.hid hpd
        clear ho4 hB4 hd4 i4
        go_wp2_with (first
          | (at_builtin; refine wpList_append_bytes _ rfl (.tmp 22) (.tmp 23) rfl rfl rfl hoA.out hli.out (by simp; omega) (by simp; omega) ?_; intro A5 c5 w5 ho5 hg5 hr5; have i5 := Boxed.kept hiA.out hg5 (fun e => by have := (hoA.out.blk e.symm).1; omega); have c5' := i5.cell; have f5 := i5.frozen; have hi5 := Lib.hid i5; replace ho5 := Lib.hid ho5; have hg5' := Lib.hid hg5; clear i5 hr5 hg5)
          | fail)
        have hb5 := hBA.out.grown hg5'.out hBA.out.size (fun k hk => by have := (hoA.out.blk hk).1; omega)
        have hz5 : Ws.heap.size + 1 ≤ w5.heap.size := by have := hg5'.out.size; simp at this; omega
        have hd5 : w5.heap[Ws.heap.size]? = some (.deferred (some [])) := (hg5'.out.block _ (by simp; omega) (fun e => by have := (hoA.out.blk e.symm).1; omega)).trans hdA.out
        go_roundw
        case rel => exact ⟨A5, n4 + 1, c5, _, hi5.out.set _, ho5.out.set_low (by omega) 0 _, by rw [pad4_more (by omega)]; exact hpd.out, by omega, (Below.heap_setCell _ _ _ _ (by simp; omega)).trans hd5, hb5.setCell (p := ⟨w.heap.size, 0, none⟩) (Nat.le_refl _) _, by simpa [World.setCell] using hz5⟩
        case measure =>
          rw [(hi5.out.set (.slice A5 (n4 + 1) c5)).cell, c4']
          show (4 - (n4 + 1) % 4) % 4 < (4 - n4 % 4) % 4
          omega
end Go.Proofs.Ytipigcpenmcaoaa
