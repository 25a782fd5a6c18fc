/- The bytes that numbers have. -/
import Derived.Test.YtfkmooldindfjaaFz
set_option linter.unusedSimpArgs false
set_option linter.unusedVariables false
namespace Go.Proofs.Ytfkmooldindfjaa
open Go.RowKit

def byteAt (a : List UInt64) (j : Nat) : UInt8 := (shrU (atF a (j / 8)) ((8 * (j % 8) : Nat) : Int)).toUInt8
def fillB (a : List UInt64) (n g : Nat) : List UInt8 := (List.range n).map fun t => if n - 1 - t < g then byteAt a (n - 1 - t) else 0
def fullB (a : List UInt64) (n : Nat) : List UInt8 := (List.range n).map fun t => byteAt a (n - 1 - t)
def overB (a : List UInt64) (n : Nat) : Nat → Bool
  | 0 => false
  | g + 1 => overB a n g || (decide (n ≤ g) && (byteAt a g != 0))
def putO (a : List UInt64) (n : Nat) : List UInt8 × Int := match overB a n (8 * a.length) with
  | true => ([], 8)
  | false => (fullB a n, 0)
def putF (a : List UInt64) (z : Int) : List UInt8 × Int := if z < 0 then ([], 8) else if z > 192 then ([], 8) else putO (cutF a) z.toNat

theorem fillB_len (a : List UInt64) (n g : Nat) : (fillB a n g).length = n := by unfold fillB; rw [List.length_map, List.length_range]
theorem fullB_len (a : List UInt64) (n : Nat) : (fullB a n).length = n := by unfold fullB; rw [List.length_map, List.length_range]
theorem fillB_zero (a : List UInt64) (n : Nat) : List.replicate n 0 = fillB a n 0 := by
  refine List.ext_getElem (by rw [List.length_replicate, fillB_len]) fun j h1 h2 => ?_
  simp [fillB]
theorem fillB_set (a : List UInt64) {n g : Nat} (h : g < n) : (fillB a n g).set (n - 1 - g) (byteAt a g) = fillB a n (g + 1) := by
  refine List.ext_getElem (by rw [List.length_set, fillB_len, fillB_len]) fun j h1 h2 => ?_
  rw [fillB_len] at h2
  rw [List.getElem_set]
  simp only [fillB, List.getElem_map, List.getElem_range]
  by_cases e : n - 1 - g = j
  · rw [if_pos e, if_pos (by omega), show n - 1 - j = g by omega]
  · rw [if_neg e]
    by_cases h3 : n - 1 - j < g
    · rw [if_pos h3, if_pos (by omega)]
    · rw [if_neg h3, if_neg (by omega)]
theorem fillB_more (a : List UInt64) {n g : Nat} (h : n ≤ g) : fillB a n (g + 1) = fillB a n g := by
  refine List.ext_getElem (by rw [fillB_len, fillB_len]) fun j h1 h2 => ?_
  rw [fillB_len] at h2
  simp only [fillB, List.getElem_map, List.getElem_range]
  rw [if_pos (by omega), if_pos (by omega)]
theorem fillB_all (a : List UInt64) {n g : Nat} (h : n ≤ g) : fillB a n g = fullB a n := by
  refine List.ext_getElem (by rw [fillB_len, fullB_len]) fun j h1 h2 => ?_
  rw [fullB_len] at h2
  simp only [fillB, fullB, List.getElem_map, List.getElem_range]
  rw [if_pos (by omega)]
theorem byteAt_out (a : List UInt64) {j : Nat} (h : 8 * a.length ≤ j) : byteAt a j = 0 := by
  unfold byteAt
  rw [atF_out (by omega)]
  unfold shrU
  rw [show (0 : UInt64).toNat = 0 from rfl, Nat.zero_div]
  rfl
theorem fillB_end (a : List UInt64) (n : Nat) : fillB a n (8 * a.length) = fullB a n := by
  refine List.ext_getElem (by rw [fillB_len, fullB_len]) fun j h1 h2 => ?_
  simp only [fillB, fullB, List.getElem_map, List.getElem_range]
  split
  · rfl
  · rw [byteAt_out a (by omega)]
theorem overB_mono {a : List UInt64} {n : Nat} : ∀ {g h : Nat}, g ≤ h → overB a n g = true → overB a n h = true
  | g, 0, hl, he => by rw [show g = 0 by omega] at he; exact he
  | g, h + 1, hl, he => by
    rcases Nat.lt_or_ge g (h + 1) with h1 | h1
    · simp only [overB]
      rw [overB_mono (h := h) (by omega) he, Bool.true_or]
    · rw [show h + 1 = g by omega]; exact he
theorem overB_low {a : List UInt64} {n : Nat} : ∀ {g : Nat}, g ≤ n → overB a n g = false
  | 0, _ => rfl
  | g + 1, h => by
    simp only [overB]
    rw [overB_low (g := g) (by omega), decide_eq_false (by omega)]
    rfl
theorem overB_yes {a : List UInt64} {n g : Nat} (h : n ≤ g) (hb : (byteAt a g != 0) = true) (hg : g < 8 * a.length) : putO a n = ([], 8) := by
  have h1 : overB a n (g + 1) = true := by simp only [overB]; rw [hb, decide_eq_true h]; simp
  unfold putO
  rw [overB_mono (by omega) h1]
theorem overB_no {a : List UInt64} {n g : Nat} (h : overB a n g = false) (hb : (byteAt a g != 0) = false) : overB a n (g + 1) = false := by
  simp only [overB]
  rw [h, hb]
  simp
theorem overB_in {a : List UInt64} {n g : Nat} (h : overB a n g = false) (hg : g < n) : overB a n (g + 1) = false := overB_low (by omega)
theorem putO_done {a : List UInt64} {n : Nat} (h : overB a n (8 * a.length) = false) : putO a n = (fullB a n, 0) := by
  unfold putO
  rw [h]

theorem byte_in (a : List UInt64) (i : Nat) {k : Nat} (hk : k < 8) : byteAt a (8 * i + k) = (shrU (atF a i) ((8 * k : Nat) : Int)).toUInt8 := by
  unfold byteAt
  rw [show (8 * i + k) / 8 = i by omega, show (8 * i + k) % 8 = k by omega]

end Go.Proofs.Ytfkmooldindfjaa
