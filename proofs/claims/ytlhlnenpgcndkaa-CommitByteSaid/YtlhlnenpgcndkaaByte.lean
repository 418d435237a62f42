/-
  One byte of one word changed: the low part of the sum is another one. Plain.
-/
import Derived.Test.YtlhlnenpgcndkaaFnv
namespace Go.Proofs.Ytlhlnenpgcndkaa

theorem xr_nat (a b : Nat) : xr (a : Int) (b : Int) = ((a ^^^ b : Nat) : Int) := rfl
theorem mul_inv (z : Int) : (z * 1099511628211 % 288230376151711744 * 186424772127004027) % 288230376151711744 = z % 288230376151711744 := by
  rw [Int.mul_emod, Int.emod_emod_of_dvd _ (Int.dvd_refl _), ← Int.mul_emod, Int.mul_assoc, Int.mul_emod z]
  have : (1099511628211 * 186424772127004027 : Int) % 288230376151711744 = 1 := by decide
  rw [this, Int.mul_one, Int.emod_emod_of_dvd _ (Int.dvd_refl _)]
theorem mul_odd {x y : Int} (h : x % 288230376151711744 ≠ y % 288230376151711744) : (x * 1099511628211) % 288230376151711744 ≠ (y * 1099511628211) % 288230376151711744 := by
  intro he
  apply h
  rw [← mul_inv x, ← mul_inv y, he]
theorem nat_low (n : Nat) : ((n : Int) % 288230376151711744) = ((n % 2 ^ 58 : Nat) : Int) := by simp
theorem xor_cancel {a b c : Nat} (h : a ^^^ c = b ^^^ c) : a = b := by
  have := congrArg (· ^^^ c) h
  simpa [Nat.xor_assoc] using this
theorem xr_low {x y b : Int} (hx : 0 ≤ x) (hy : 0 ≤ y) (hb : 0 ≤ b) (h : x % 288230376151711744 ≠ y % 288230376151711744) : xr x b % 288230376151711744 ≠ xr y b % 288230376151711744 := by
  obtain ⟨n, rfl⟩ := Int.eq_ofNat_of_zero_le hx
  obtain ⟨k, rfl⟩ := Int.eq_ofNat_of_zero_le hy
  obtain ⟨c, rfl⟩ := Int.eq_ofNat_of_zero_le hb
  rw [xr_nat, xr_nat]
  intro he
  rw [nat_low, nat_low, Int.natCast_inj, Nat.xor_mod_two_pow, Nat.xor_mod_two_pow] at he
  have := xor_cancel he
  apply h
  rw [nat_low, nat_low, this]
theorem xr_byte {s b c : Int} (hs : 0 ≤ s) (hb : 0 ≤ b ∧ b < 256) (hc : 0 ≤ c ∧ c < 256) (h : b ≠ c) : xr s b % 288230376151711744 ≠ xr s c % 288230376151711744 := by
  obtain ⟨n, rfl⟩ := Int.eq_ofNat_of_zero_le hs
  obtain ⟨k, rfl⟩ := Int.eq_ofNat_of_zero_le hb.1
  obtain ⟨j, rfl⟩ := Int.eq_ofNat_of_zero_le hc.1
  rw [xr_nat, xr_nat]
  intro he
  rw [nat_low, nat_low, Int.natCast_inj, Nat.xor_mod_two_pow, Nat.xor_mod_two_pow, Nat.xor_comm (n % 2 ^ 58), Nat.xor_comm (n % 2 ^ 58)] at he
  have := xor_cancel he
  rw [Nat.mod_eq_of_lt (by omega), Nat.mod_eq_of_lt (by omega)] at this
  exact h (by rw [this])
theorem stp_low {x b : Int} : stp x b % 288230376151711744 = (xr x b * 1099511628211) % 288230376151711744 := by
  unfold stp
  exact Int.emod_emod_of_dvd _ ⟨64, by decide⟩
theorem stp_ne {x y b : Int} (hx : 0 ≤ x) (hy : 0 ≤ y) (hb : 0 ≤ b) (h : x % 288230376151711744 ≠ y % 288230376151711744) : stp x b % 288230376151711744 ≠ stp y b % 288230376151711744 := by
  rw [stp_low, stp_low]
  exact mul_odd (xr_low hx hy hb h)
theorem stp_byte {s b c : Int} (hs : 0 ≤ s) (hb : 0 ≤ b ∧ b < 256) (hc : 0 ≤ c ∧ c < 256) (h : b ≠ c) : stp s b % 288230376151711744 ≠ stp s c % 288230376151711744 := by
  rw [stp_low, stp_low]
  exact mul_odd (xr_byte hs hb hc h)
/-- The same bytes behind states that differ. -/
theorem stpB_ne {x y w : Int} (hx : 0 ≤ x ∧ x < 18446744073709551616) (hy : 0 ≤ y ∧ y < 18446744073709551616) (h : x % 288230376151711744 ≠ y % 288230376151711744) : ∀ n, stpB x w n % 288230376151711744 ≠ stpB y w n % 288230376151711744
  | 0 => h
  | n + 1 => stp_ne (stpB_in hx n).1 (stpB_in hy n).1 (byteAt_in w n).1 (stpB_ne hx hy h n)
/-- Words that differ in one byte. -/
theorem stpB_byte {s w v : Int} (hs : 0 ≤ s ∧ s < 18446744073709551616) {b : Nat} (h1 : ∀ i, i ≠ b → byteAt w i = byteAt v i) (h2 : byteAt w b ≠ byteAt v b) : ∀ n, (n ≤ b → stpB s w n = stpB s v n) ∧ (b < n → stpB s w n % 288230376151711744 ≠ stpB s v n % 288230376151711744)
  | 0 => ⟨fun _ => rfl, fun h => by omega⟩
  | n + 1 => by
    obtain ⟨i1, i2⟩ := stpB_byte hs h1 h2 n
    refine ⟨fun h => ?_, fun h => ?_⟩
    · simp only [stpB]; rw [i1 (by omega), h1 n (by omega)]
    · simp only [stpB]
      by_cases hn : n = b
      · subst hn
        rw [i1 (Nat.le_refl _)]
        exact stp_byte (stpB_in hs n).1 (byteAt_in w n) (byteAt_in v n) h2
      · rw [h1 n hn]
        exact stp_ne (stpB_in hs n).1 (stpB_in hs n).1 (byteAt_in v n).1 (i2 (by omega))
theorem hsh_ne : ∀ {l : List Int} {x y : Int}, 0 ≤ x ∧ x < 18446744073709551616 → 0 ≤ y ∧ y < 18446744073709551616 → x % 288230376151711744 ≠ y % 288230376151711744 → hsh x l % 288230376151711744 ≠ hsh y l % 288230376151711744
  | [], _, _, _, _, h => h
  | _ :: l, _, _, hx, hy, h => hsh_ne (l := l) (stpB_in hx 8) (stpB_in hy 8) (stpB_ne hx hy h 8)
theorem hsh_set : ∀ {l : List Int} {i : Nat} {w v s : Int}, l[i]? = some w → 0 ≤ s ∧ s < 18446744073709551616 → {b : Nat} → b < 8 → (∀ j, j ≠ b → byteAt w j = byteAt v j) → byteAt w b ≠ byteAt v b → hsh s l % 288230376151711744 ≠ hsh s (l.set i v) % 288230376151711744
  | [], i, _, _, _, h, _, _, _, _, _ => by simp at h
  | x :: l, 0, w, v, s, h, hs, b, hb, h1, h2 => by
    simp at h; subst h
    exact hsh_ne (l := l) (stpB_in hs 8) (stpB_in hs 8) ((stpB_byte hs h1 h2 8).2 hb)
  | x :: l, i + 1, w, v, s, h, hs, b, hb, h1, h2 => hsh_set (l := l) (i := i) (by simpa using h) (stpB_in hs 8) hb h1 h2

/-- A word with one byte changed. -/
def xorB (w c : Int) (b : Nat) : Int := xr w (c * 256 ^ b)
theorem byteAt_xor {w c : Int} (hw : 0 ≤ w) (hc : 0 ≤ c ∧ c < 256) (b i : Nat) : byteAt (xorB w c b) i = if i = b then xr (byteAt w b) c else byteAt w i := by
  obtain ⟨n, rfl⟩ := Int.eq_ofNat_of_zero_le hw
  obtain ⟨k, rfl⟩ := Int.eq_ofNat_of_zero_le hc.1
  have e1 : (k : Int) * 256 ^ b = ((k * 256 ^ b : Nat) : Int) := by simp
  have e2 : ∀ (a : Nat) (j : Nat), byteAt (a : Int) j = ((a / 256 ^ j % 256 : Nat) : Int) := by intro a j; simp [byteAt]
  have e3 : ∀ j : Nat, (256 : Nat) ^ j = 2 ^ (8 * j) := fun j => by rw [Nat.pow_mul]
  unfold xorB
  rw [e1, xr_nat, e2, e2, e2, xr_nat]
  have e4 : (n ^^^ k * 256 ^ b) / 256 ^ i % 256 = (n / 256 ^ i % 256) ^^^ (k * 256 ^ b / 256 ^ i % 256) := by
    rw [e3 i, Nat.xor_div_two_pow]
    exact Nat.xor_mod_two_pow (n := 8)
  rw [e4]
  by_cases hi : i = b
  · subst hi
    rw [if_pos rfl, Nat.mul_div_cancel _ (Nat.pow_pos (by decide)), Nat.mod_eq_of_lt (a := k) (by omega)]
  · rw [if_neg hi]
    have : k * 256 ^ b / 256 ^ i % 256 = 0 := by
      rcases Nat.lt_or_gt_of_ne hi with h | h
      · have e5 : k * 256 ^ b = k * 256 ^ (b - i - 1) * 256 * 256 ^ i := by
          rw [Nat.mul_assoc, Nat.mul_assoc, ← Nat.pow_succ', ← Nat.pow_add]; congr 2; omega
        rw [e5, Nat.mul_div_cancel _ (Nat.pow_pos (by decide)), Nat.mul_mod_left]
      · rw [Nat.div_eq_of_lt, Nat.zero_mod]
        calc k * 256 ^ b < 256 * 256 ^ b := Nat.mul_lt_mul_of_pos_right (by omega) (Nat.pow_pos (by decide))
          _ = 256 ^ (b + 1) := by rw [Nat.pow_succ, Nat.mul_comm]
          _ ≤ 256 ^ i := Nat.pow_le_pow_right (by decide) h
    rw [this, Nat.xor_zero]
theorem xr_ne {x c : Int} (hx : 0 ≤ x) (hc : 0 < c) : xr x c ≠ x := by
  obtain ⟨n, rfl⟩ := Int.eq_ofNat_of_zero_le hx
  obtain ⟨k, rfl⟩ := Int.eq_ofNat_of_zero_le (show 0 ≤ c by omega)
  rw [xr_nat]
  intro h
  have h2 : n ^^^ k = n := by omega
  have h3 : k ^^^ n = 0 ^^^ n := by rw [Nat.xor_comm, h2, Nat.zero_xor]
  have := xor_cancel h3
  omega
theorem xorB_in {w c : Int} (hw : 0 ≤ w ∧ w < 18446744073709551616) (hc : 0 ≤ c ∧ c < 256) {b : Nat} (hb : b < 8) : 0 ≤ xorB w c b ∧ xorB w c b < 18446744073709551616 ∧ 0 ≤ c * 256 ^ b ∧ c * 256 ^ b < 18446744073709551616 := by
  obtain ⟨n, rfl⟩ := Int.eq_ofNat_of_zero_le hw.1
  obtain ⟨k, rfl⟩ := Int.eq_ofNat_of_zero_le hc.1
  have e1 : (k : Int) * 256 ^ b = ((k * 256 ^ b : Nat) : Int) := by simp
  have h1 : k * 256 ^ b < 2 ^ 64 := by
    have h2 : k * 256 ^ b < 256 * 256 ^ b := Nat.mul_lt_mul_of_pos_right (by omega) (Nat.pow_pos (by decide))
    have h3 : 256 * 256 ^ b = 256 ^ (b + 1) := by rw [Nat.pow_succ, Nat.mul_comm]
    have h4 : 256 ^ (b + 1) ≤ 256 ^ 8 := Nat.pow_le_pow_right (by decide) (by omega)
    omega
  have h5 : n ^^^ k * 256 ^ b < 2 ^ 64 := Nat.xor_lt_two_pow (by omega) h1
  unfold xorB
  rw [e1, xr_nat]
  omega
/-- The sum's low part tells a byte of a word that was changed. -/
theorem sum_byte {l : List Int} {i b : Nat} {w c : Int} (h : l[i]? = some w) (hw : 0 ≤ w) (hb : b < 8) (hc : 0 < c ∧ c < 256) : sumOf l % 288230376151711744 ≠ sumOf (l.set i (xorB w c b)) % 288230376151711744 := by
  have hx := byteAt_xor hw ⟨by omega, hc.2⟩ b
  refine hsh_set h (by decide) hb (fun j hj => ?_) ?_
  · rw [hx, if_neg hj]
  · rw [hx, if_pos rfl]
    exact (xr_ne (byteAt_in w b).1 hc.1).symm
theorem mod64_byte (w : Int) : w % 64 = byteAt w 0 % 64 := by
  simp only [byteAt, Int.pow_zero, Int.ediv_one]
  omega
theorem mod64_xor {w c : Int} (hw : 0 ≤ w) (hc : 0 ≤ c ∧ c < 256) {b : Nat} (hb : b ≠ 0) : xorB w c b % 64 = w % 64 := by
  rw [mod64_byte, mod64_byte w, byteAt_xor hw hc, if_neg (fun h => hb h.symm)]
theorem xorB_ne {w c : Int} (hw : 0 ≤ w) (hc : 0 < c ∧ c < 256) (b : Nat) : xorB w c b ≠ w := by
  intro h
  have := byteAt_xor hw ⟨by omega, hc.2⟩ b b
  rw [h, if_pos rfl] at this
  exact xr_ne (byteAt_in w b).1 hc.1 this.symm
end Go.Proofs.Ytlhlnenpgcndkaa
