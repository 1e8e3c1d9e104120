/- What bytes ask (pcp): read joined; walks of Parse, Read. -/
import Derived.Test.YtldjecilmcnpiaaPcpS
import Derived.Test.YtldjecilmcnpiaaPcpT
set_option linter.unusedVariables false
namespace Go.Proofs.Ytldjecilmcnpiaa
open Go Go.RowKit

theorem PRead_any (A : Option Addr) (n c : Nat) (bs : List Int) (kind : Int) (w : World) (h : RB w A n c bs) (hn : n ≤ 100000) :
    Calls Try.prog 73 #[.slice A n c, .int .u8 kind] w (AskOut w (readA kind bs) (codeP kind bs)) := by
  by_cases h1 : n < 60
  · exact PRead_short A n c bs kind w h h1
  · by_cases h2 : 60 < n
    · exact PRead_long A n c bs kind w h h2 hn
    · obtain rfl : n = 60 := by omega
      by_cases hx : bs[0]?.getD 0 = 2
      · by_cases hy : bs[1]?.getD 0 = kind
        · exact PRead_same A c bs kind w h hx hy
        · exact PRead_form1 A c bs kind w h hx hy
      · exact PRead_form0 A c bs kind w h hx
set_option maxRecDepth 100000 in
set_option maxHeartbeats 1000000 in
theorem PParse_any (A : Option Addr) (n c : Nat) (bs : List Int) (w : World) (h : RB w A n c bs) (hn : n ≤ 100000) :
    Calls Try.prog 28 #[.slice A n c] w (AskOut w (readA 1 bs) (codeP 1 bs)) := by
  have hz := Lib.hid (Blk.new w zAc 51)
  have hb := Lib.hid ((Below.refl _ w).alloc (Nat.le_refl _) (.cells zAc 51))
  have hR := Lib.hid (PRead_any A n c bs 1 _ (h.below hb.out) hn)
  have hok := Lib.hid (rowA_size (readA_ok (kind := 1) h.byt))
  clear h
  unfold AskOut at hR
  generalize readA 1 bs = a at *
  generalize codeP 1 bs = k at *
  go_enter Try.func28, Try.ntmps28
  go_wp2_with (first
    | (go_at_call 73; refine (hR.out).mono ?_; rintro e w1 ⟨rfl, hB1⟩; have hz1 := Lib.hid (hz.out.to hB1); have hb1 := Lib.hid (hb.out.trans (hB1.mono hb.out.size)); clear hB1)
    | (refine wpList_store_K rfl (.tmp 2) (.tmp 6) rfl w.heap.size (rowA a).toArray rfl rfl zAc hz1.out rfl hok.out rowA_one ?_)
    | fail)
  exact bodyPost_ret (results_ct Try.results28 rfl (run_load_K ⟨setRow_heap _ _ _ _ _ _ hz1.out.at_⟩ hok.out)) rfl ⟨rfl, below_row hb1.out (Nat.le_refl _) _⟩

def zeroT : ToldP := ⟨0, 0, zeroA⟩
abbrev zTc : Array Value := #[.int .i64 0, .int .i64 0, .int .i64 0, .int .u8 0, .int .u8 0, .int .u8 0, .int .u8 0, .int .u8 0, .int .u8 0, .int .u8 0, .int .u8 0, .int .u8 0, .int .u8 0, .int .u8 0, .int .u8 0, .int .u8 0, .int .u8 0, .int .u8 0, .int .u8 0, .int .u8 0, .int .u8 0, .int .u8 0, .int .u8 0, .int .u8 0, .int .u8 0, .int .u8 0, .int .u8 0, .int .u8 0, .int .u8 0, .int .u8 0, .int .u8 0, .int .i64 0, .int .i64 0, .int .i64 0, .int .i64 0]
theorem zT_row : (rowT zeroT).toArray = zTc := rfl
theorem rowT_one {t : ToldP} : (rowT t).toArray.all (·.oneCell') = true := by
  rw [Array.all_eq_true']
  intro x hx
  simp only [rowT, List.mem_toArray, List.mem_cons] at hx
  rcases hx with rfl | rfl | hx
  · rfl
  · rfl
  · have := rowA_one (a := t.ask)
    rw [Array.all_eq_true'] at this
    exact this x (by simpa using hx)
theorem zT_one : zTc.all (·.oneCell') = true := rowT_one (t := zeroT)
def readT (bs : List Int) : ToldP := if codeP 129 bs = 0 then ⟨bs[3]?.getD 0, (getV bs 8 4).1, { readA 129 bs with cl := z16 }⟩ else zeroT
def ToldOut (w : World) (t : ToldP) (e0 : Int) (e : Ending) (w' : World) : Prop := e = .returned (.tuple #[.agg (rowT t).toArray, .int .i64 e0]) ∧ Below w.heap.size w w'
theorem twelve {P : List Int → Prop} (h : ∀ x0 x1 x2 x3 x4 x5 x6 x7 x8 x9 x10 x11, P [x0, x1, x2, x3, x4, x5, x6, x7, x8, x9, x10, x11]) : ∀ l : List Int, l.length = 12 → P l
  | [x0, x1, x2, x3, x4, x5, x6, x7, x8, x9, x10, x11], _ => h x0 x1 x2 x3 x4 x5 x6 x7 x8 x9 x10 x11
theorem sixteen {P : List Int → Prop} (h : ∀ x0 x1 x2 x3 x4 x5 x6 x7 x8 x9 x10 x11 x12 x13 x14 x15, P [x0, x1, x2, x3, x4, x5, x6, x7, x8, x9, x10, x11, x12, x13, x14, x15]) : ∀ l : List Int, l.length = 16 → P l
  | [x0, x1, x2, x3, x4, x5, x6, x7, x8, x9, x10, x11, x12, x13, x14, x15], _ => h x0 x1 x2 x3 x4 x5 x6 x7 x8 x9 x10 x11 x12 x13 x14 x15
theorem built_told (x y life pr port outer addr : Int) (cl no : List Int) (h1 : cl.length = 16) (h2 : no.length = 12) : Try.prog.built 58 [(0, .int .i64 x), (1, .int .i64 y), (2, .agg (rowA ⟨life, cl, no, pr, port, outer, addr⟩).toArray)] = some (rowT ⟨x, y, ⟨life, cl, no, pr, port, outer, addr⟩⟩).toArray := by
  revert cl no
  refine fun cl no h1 h2 => ?_
  revert no
  refine sixteen (P := fun cl => ∀ no : List Int, no.length = 12 → Try.prog.built 58 [(0, .int .i64 x), (1, .int .i64 y), (2, .agg (rowA ⟨life, cl, no, pr, port, outer, addr⟩).toArray)] = some (rowT ⟨x, y, ⟨life, cl, no, pr, port, outer, addr⟩⟩).toArray) ?_ cl h1
  intro x0 x1 x2 x3 x4 x5 x6 x7 x8 x9 x10 x11 x12 x13 x14 x15
  refine twelve ?_
  intro y0 y1 y2 y3 y4 y5 y6 y7 y8 y9 y10 y11
  kernel_rfl
end Go.Proofs.Ytldjecilmcnpiaa
