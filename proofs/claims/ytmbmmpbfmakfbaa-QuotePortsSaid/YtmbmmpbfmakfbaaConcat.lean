/- slices.Grow of a nil slice of bytes, and slices.Concat of slices of bytes: walks. -/
import Derived.Test.YtmbmmpbfmakfbaaAppend
import Derived.Lib.AppendZerosOnto
import Derived.Test.YtmbmmpbfmakfbaaTcp
set_option linter.unusedVariables false
namespace Go.Proofs.Ytmbmmpbfmakfbaa
open Go.RowKit Go.Lib

theorem OB.hold (w : World) (G : Nat) (xs : Array Value) (hx : xs.size = G) (hG : G ≤ maxLen) :
    OB (w.drew.alloc (.cells xs 5)) w.heap.size (some ⟨w.heap.size, 0, none⟩) 0 G [] :=
  ⟨⟨rfl, .inr ⟨w.heap.size, G, _, rfl, Nat.le_refl _, World.alloc_heap_new w.drew _, Nat.zero_le _, hG, by omega, by simp [u8s]⟩⟩, Byts.nil⟩

/-- The first k of lists, joined. -/
def flatL (l : List (List Int)) (k : Nat) : List Int := (l.take k).flatten
def flatN (l : List (List Int)) (k : Nat) : Nat := (flatL l k).length
theorem flatL_zero (l : List (List Int)) : flatL l 0 = [] := by simp [flatL]
theorem flatN_zero (l : List (List Int)) : flatN l 0 = 0 := by simp [flatN, flatL]
theorem flatL_all (l : List (List Int)) : flatL l l.length = l.flatten := by simp [flatL]
theorem flatL_succ (l : List (List Int)) (k : Nat) (hk : k < l.length) : flatL l (k + 1) = flatL l k ++ (l[k]?.getD []) := by
  unfold flatL
  rw [List.take_add_one, List.flatten_append]
  congr 1
  rw [List.getElem?_eq_getElem hk]; simp
theorem flatN_succ (l : List (List Int)) (k : Nat) (hk : k < l.length) : flatN l (k + 1) = flatN l k + (l[k]?.getD []).length := by
  unfold flatN; rw [flatL_succ l k hk, List.length_append]
theorem flatN_le (l : List (List Int)) (k : Nat) : flatN l k ≤ l.flatten.length := by
  have := congrArg (fun x => x.flatten.length) (List.take_append_drop k l)
  simp only [List.flatten_append, List.length_append] at this
  unfold flatN flatL
  omega

end Go.Proofs.Ytmbmmpbfmakfbaa
/- Segments (tcp): walk of Build. -/
set_option linter.unusedVariables false
namespace Go.Proofs.Ytmbmmpbfmakfbaa
open Go.RowKit

theorem rbb_three {w : World} {A A' A'' : Option Addr} {n c n' c' n'' c'' : Nat} {a b d : List Int} (h : RB w A n c a) (h' : RB w A' n' c' b) (h'' : RB w A'' n'' c'' d) : RBB (w.alloc (.cells #[.slice A n c, .slice A' n' c', .slice A'' n'' c''] 24)) (some ⟨w.heap.size, 0, none⟩) 3 3 [a, b, d] :=
  RBB.lit w 24 [(A, n, c, a), (A', n', c', b), (A'', n'', c'', d)] (fun p hp => by simp at hp; rcases hp with rfl | rfl | rfl; exact h; exact h'; exact h'') (by simp)

/-- A segment's bytes, with a sum. -/
def bytesT (m : TcpP) (s : Int) : List Int :=
  digL m.s 2 ++ digL m.d 2 ++ digL m.q 4 ++ digL m.a 4 ++ digL ((20 + (m.opts.length : Int)) / 4 * 16 + m.r) 1 ++ digL m.f 1 ++ digL m.w 2 ++ digL s 2 ++ digL m.u 2 ++ m.opts ++ m.data
theorem bytesT_length (m : TcpP) (s : Int) : (bytesT m s).length = 20 + m.opts.length + m.data.length := by simp [bytesT, digL_length]; omega
theorem bytesT_byts {m : TcpP} {s : Int} (ho : Byts m.opts) (hd : Byts m.data) : Byts (bytesT m s) := by
  unfold bytesT
  exact ((((((((((digL_byts _ _).append (digL_byts _ _)).append (digL_byts _ _)).append (digL_byts _ _)).append (digL_byts _ _)).append (digL_byts _ _)).append (digL_byts _ _)).append (digL_byts _ _)).append (digL_byts _ _)).append ho).append hd
def sumT (src dst : Int) (m : TcpP) : Int := 65535 - foldI (totalI [pseudoB src dst 6 ((bytesT m 0).length : Nat), bytesT m 0])
theorem sumT_bd (src dst : Int) (m : TcpP) : 0 ≤ sumT src dst m ∧ sumT src dst m ≤ 65535 := by
  have h1 := foldI_lo (totalI [pseudoB src dst 6 ((bytesT m 0).length : Nat), bytesT m 0])
  have h2 := foldI_hi (totalI [pseudoB src dst 6 ((bytesT m 0).length : Nat), bytesT m 0])
  unfold sumT; omega
def builtT (src dst : Int) (m : TcpP) : List Int := bytesT m (sumT src dst m)
def builtT? (src dst : Int) (m : TcpP) (no n : Nat) : List Int := if checkT m no n = 0 then builtT src dst m else []
/-- The first numbers, as bytes. -/
def preT (zs : List (Int × Nat)) (k : Nat) : List Int := ((zs.take k).map fun z => digL z.1 z.2).flatten
theorem preT_succ (zs : List (Int × Nat)) (k : Nat) (hk : k < zs.length) : preT zs (k + 1) = preT zs k ++ digL (zs[k]?.getD (0, 0)).1 (zs[k]?.getD (0, 0)).2 := by
  unfold preT
  rw [List.take_add_one, List.getElem?_eq_getElem hk]
  simp only [Option.toList_some, List.map_append, List.map_cons, List.map_nil, List.flatten_append, List.flatten_cons, List.flatten_nil, List.append_nil, Option.getD_some]
theorem preT_le (m : TcpP) (no k : Nat) : (preT (zsT m no) k).length ≤ 20 := by
  unfold preT
  have : ∀ l : List (Int × Nat), (l.map fun z => digL z.1 z.2).flatten.length = (l.map (·.2)).sum := by
    intro l
    induction l with
    | nil => rfl
    | cons z l ih => simp [digL_length, ih]
  rw [this]
  unfold zsT
  have hk : k = 0 ∨ k = 1 ∨ k = 2 ∨ k = 3 ∨ k = 4 ∨ k = 5 ∨ k = 6 ∨ k = 7 ∨ k = 8 ∨ 9 ≤ k := by omega
  rcases hk with rfl | rfl | rfl | rfl | rfl | rfl | rfl | rfl | rfl | h
  all_goals try simp
  rw [List.take_of_length_le (by simp; omega)]; simp
theorem preT_all (m : TcpP) (no : Nat) (h : m.opts.length = no) : [preT (zsT m no) 9, m.opts, m.data].flatten = bytesT m 0 := by
  unfold preT zsT bytesT
  rw [h]
  simp
theorem bytesT_set (m : TcpP) (s : Int) : setN (bytesT m 0) 16 (digL s 2) 2 = bytesT m s := by
  have := setN_two2 (digL m.s 2 ++ digL m.d 2 ++ digL m.q 4 ++ digL m.a 4 ++ digL ((20 + (m.opts.length : Int)) / 4 * 16 + m.r) 1 ++ digL m.f 1 ++ digL m.w 2) (digL m.u 2 ++ m.opts ++ m.data) 0 0 (digL s 2) 16 (by simp [digL_length]) (digL_length _ _)
  have e0 : digL 0 2 = [0, 0] := by decide
  unfold bytesT
  rw [e0]
  simpa using this

end Go.Proofs.Ytmbmmpbfmakfbaa
