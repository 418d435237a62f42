/-
  The sum of words, in plain terms.
-/
import Derived.Test.YtlhlnenpgcndkaaPlain
namespace Go.Proofs.Ytlhlnenpgcndkaa

/-- xor of two words. -/
def xr (a b : Int) : Int := ((a.toNat ^^^ b.toNat : Nat) : Int)
/-- The i-th byte of a word. -/
def byteAt (w : Int) (i : Nat) : Int := w / 256 ^ i % 256
/-- A step of the sum with a byte. -/
def stp (s b : Int) : Int := (xr s b * 1099511628211) % 18446744073709551616
/-- The state behind the first n bytes of a word. -/
def stpB (s w : Int) : Nat → Int
  | 0 => s
  | n + 1 => stp (stpB s w n) (byteAt w n)
/-- The state behind words. -/
def hsh (s : Int) (l : List Int) : Int := l.foldl (fun s w => stpB s w 8) s
/-- The sum of words. -/
def sumOf (l : List Int) : Int := hsh 14695981039346656037 l
/-- The commit word of entries. -/
def cword (l : List (Int × Int)) : Int := (sumOf (listed l) % 288230376151711744) * 64 + l.length

theorem stp_in (s b : Int) : 0 ≤ stp s b ∧ stp s b < 18446744073709551616 := by
  unfold stp; omega
theorem stpB_in {s w : Int} (h : 0 ≤ s ∧ s < 18446744073709551616) : ∀ n, 0 ≤ stpB s w n ∧ stpB s w n < 18446744073709551616
  | 0 => h
  | _ + 1 => stp_in _ _
theorem hsh_in : ∀ {l : List Int} {s : Int}, 0 ≤ s ∧ s < 18446744073709551616 → 0 ≤ hsh s l ∧ hsh s l < 18446744073709551616
  | [], _, h => h
  | _ :: l, _, h => hsh_in (l := l) (stpB_in h 8)
theorem sumOf_in (l : List Int) : 0 ≤ sumOf l ∧ sumOf l < 18446744073709551616 := hsh_in (by decide)
theorem hsh_snoc (s : Int) (l : List Int) (w : Int) : hsh s (l ++ [w]) = stpB (hsh s l) w 8 := by
  simp [hsh, List.foldl_append]
theorem byteAt_in (w : Int) (i : Nat) : 0 ≤ byteAt w i ∧ byteAt w i < 256 := by
  unfold byteAt; omega
theorem cword_pos {l : List (Int × Int)} (h : 0 < l.length) (h2 : l.length ≤ 32) : 0 < cword l ∧ cword l % 64 = l.length ∧ cword l / 64 = sumOf (listed l) % 288230376151711744 := by
  have := sumOf_in (listed l)
  unfold cword
  refine ⟨?_, ?_, ?_⟩ <;> omega
end Go.Proofs.Ytlhlnenpgcndkaa
