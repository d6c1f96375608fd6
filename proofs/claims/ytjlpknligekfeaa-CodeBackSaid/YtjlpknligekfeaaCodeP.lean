/-
  Numbers, texts and lists as bytes, and back, in plain words.
-/
import Derived.Test.YtjlpknligekfeaaFacts
namespace Go.Proofs.Ytjlpknligekfeaa
open Go Go.Sse
set_option linter.unusedVariables false
set_option linter.unusedSimpArgs false

/-- A number's bytes, the greatest first, none of them too many. -/
def be (n : Nat) : List UInt8 := if h : n = 0 then [] else be (n / 256) ++ [UInt8.ofNat (n % 256)]
termination_by n
decreasing_by omega
theorem be_zero : be 0 = [] := by rw [be, dif_pos rfl]
theorem be_pos {n : Nat} (h : 0 < n) : be n = be (n / 256) ++ [UInt8.ofNat (n % 256)] := by rw [be, dif_neg (by omega)]
theorem be_len : ∀ (k n : Nat), n < 256 ^ k → (be n).length ≤ k
  | 0, n, h => by have : n = 0 := by simpa using h
                  subst this; rw [be_zero]; simp
  | k + 1, n, h => by
    by_cases h0 : n = 0
    · subst h0; rw [be_zero]; simp
    · rw [be_pos (by omega), List.length_append]
      have : n / 256 < 256 ^ k := by rw [Nat.div_lt_iff_lt_mul (by omega), ← Nat.pow_succ]; exact h
      have := be_len k (n / 256) this
      simp only [List.length_cons, List.length_nil]; omega
theorem be_len8 {n : Nat} (h : n < 18446744073709551616) : (be n).length ≤ 8 := be_len 8 n (by simpa using h)
def numB (n : Nat) : List UInt8 := UInt8.ofNat (be n).length :: be n
theorem numB_len {n : Nat} (h : n < 18446744073709551616) : 1 ≤ (numB n).length ∧ (numB n).length ≤ 9 := by
  have := be_len8 h
  simp only [numB, List.length_cons]; omega
def textB (s : List UInt8) : List UInt8 := numB s.length ++ s
def listB (l : List (List UInt8)) : List UInt8 := numB l.length ++ (l.map textB).flatten
def flagB (b : Bool) : List UInt8 := if b then [1] else [0]
theorem list_take {l : List (List UInt8)} (i : Nat) (h : i < l.length) : ((l.take i).map textB).flatten ++ textB (l.getD i []) = ((l.take (i + 1)).map textB).flatten := by
  rw [List.take_add_one, List.getElem?_eq_getElem h, List.getD_eq_getElem?_getD, List.getElem?_eq_getElem h]
  simp only [Option.toList_some, Option.getD_some, List.map_append, List.map_cons, List.map_nil, List.flatten_append, List.flatten_cons, List.flatten_nil, List.append_nil]
end Go.Proofs.Ytjlpknligekfeaa
