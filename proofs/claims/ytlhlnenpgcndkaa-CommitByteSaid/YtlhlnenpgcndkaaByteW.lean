/-
  CommitByte, for every image, every list of entries, every two numbers and every byte: the law returns true. No condition.
-/
import Derived.Test.YtlhlnenpgcndkaaAlive09
import Derived.Test.YtlhlnenpgcndkaaLawCB
import Derived.Test.YtlhlnenpgcndkaaAt
import Derived.Test.YtlhlnenpgcndkaaOpen
namespace Go.Proofs.Ytlhlnenpgcndkaa
open Go.ChangeShapes Go.WideShapes Go.ChangeAt Go.RowKit

theorem imagePut_at2 (m l : List Int) (n k : Nat) (hm : m.length = n) (hl : l.length = k) (A : Option Addr) (c : Nat) (a : Int) (B : Option Addr) (d : Nat) (w : World) (hA : Sl w A n c (fU m)) (hB : Sl w B k d (fU l)) (hr : rngE n a k = 0) :
    Calls Try.prog 35 #[.slice A n c, .int .i64 a, .slice B k d] w (RetU w (splice m a.toNat l) 0) := by
  subst hm hl
  refine (imagePut_any m l A c a B d w hA hB).mono ?_
  rintro e w' (⟨_, A1, c1, rfl, _, hA1, hx1⟩ | ⟨hne, _⟩)
  case inr => exact absurd hr hne
  obtain ⟨_, h1, _, h3, h4⟩ := rngE_ok hr
  exact retU_at (splice_len (by omega)) hA1 hx1
theorem shl_byte {c : Int} {b : Nat} (hc : 0 ≤ c ∧ c < 256) (hb : b < 8) : IntKind.u64.wrap (c * 2 ^ (8 * (b : Int)).toNat) = c * 256 ^ b := by
  have e : (8 * (b : Int)).toNat = 8 * b := by omega
  have e2 : (2 : Int) ^ (8 * b) = 256 ^ b := by rw [Int.pow_mul]; rfl
  have := xorB_in (w := 0) (by decide) hc hb
  rw [e, e2]
  simp only [IntKind.wrap, IntKind.bits, IntKind.signed]
  simp
  omega
theorem xor_bits64 (s b : Int) (hs : 0 ≤ s ∧ s < 18446744073709551616) (hb : 0 ≤ b ∧ b < 18446744073709551616) : bits BinOp.xor IntKind.u64 s b = xr s b := by
  obtain ⟨n, rfl⟩ := Int.eq_ofNat_of_zero_le hs.1
  obtain ⟨k, rfl⟩ := Int.eq_ofNat_of_zero_le hb.1
  show IntKind.u64.wrap ((BitVec.ofInt 64 (n : Int) ^^^ BitVec.ofInt 64 (k : Int)).toNat : Int) = _
  have h1 : BitVec.ofInt 64 (n : Int) = BitVec.ofNat 64 n := by simp
  have h2 : BitVec.ofInt 64 (k : Int) = BitVec.ofNat 64 k := by simp
  have h3 : n ^^^ k < 2 ^ 64 := Nat.xor_lt_two_pow (by omega) (by omega)
  rw [h1, h2, BitVec.toNat_xor, BitVec.toNat_ofNat, BitVec.toNat_ofNat, Nat.mod_eq_of_lt (a := n) (by omega), Nat.mod_eq_of_lt (a := k) (by omega), xr, Int.toNat_natCast, Int.toNat_natCast]
  simp [IntKind.wrap, IntKind.bits, IntKind.signed]
  omega
/-- What the main way needs, for the index i of the word that is changed. -/
structure ByteFacts (m : List Int) (l : List (Int × Int)) (B : Option Addr) (d : Nat) (A : Option Addr) (c : Nat) (i b : Nat) (ch y sv : Int) (J S X : List Int) : Prop where
  jl : J.length = 8 + 2 * l.length
  sl : S.length = 8 + 2 * l.length
  xl : X.length = m.length
  chk : chkE l m.length = 0
  set : J.set i (xr y sv) = S
  at_ : J[i]? = some y
  jr : ∀ W, Sl W B l.length d (fE l) → Calls Try.prog 24 #[.slice B l.length d, .int .i64 m.length] W (RetU W J 0)
  put : ∀ A2 c2 W, Sl W A m.length c (fU m) → Sl W A2 (8 + 2 * l.length) c2 (fU S) → Calls Try.prog 35 #[.slice A m.length c, .int .i64 24, .slice A2 (8 + 2 * l.length) c2] W (RetU W X 0)
  rd : ∀ A2 c2 W, Sl W A2 m.length c2 (fU X) → Calls Try.prog 29 #[.slice A2 m.length c2] W (RetE W [] 50)
theorem byte_facts {m : List Int} {l : List (Int × Int)} (wm : WfU m) (wf : WfE l) (h0 : chkE l m.length = 0) (hn : l.length ≠ 0) (B : Option Addr) (d : Nat) (A : Option Addr) (c : Nat) {i b : Nat} {ch : Int} (hi : i < 8 + 2 * l.length) (hi2 : i = 0 ∨ 8 ≤ i) (hb : b < 8) (hb0 : i = 0 → b ≠ 0) (hc : 0 < ch ∧ ch < 256) :
    ∃ y J S X, ByteFacts m l B d A c i b ch y (ch * 256 ^ b) J S X ∧ (0 ≤ y ∧ y < 18446744073709551616) := by
  have hs := (chk_iff.1 h0).1
  have hsz := sizeB_bd hs
  have hl32 := (chk_iff.1 h0).2.1
  obtain ⟨p0, p1, p2, p3, p4⟩ := cw_facts h0 hn
  obtain ⟨q1, q2, q3, q4⟩ := spoil_reads wf h0 hn hi hi2 hb hb0 hc
  have hjl := jwords_length l
  have wj := wf_jwords h0 hn wf
  have hat : (jwords l)[i]? = some ((jwords l).getD i 0) := by rw [List.getD, List.getElem?_eq_getElem (by omega)]; rfl
  obtain ⟨y0, y1⟩ := wj _ (List.mem_of_getElem? hat)
  have g1 := rngE_in (n := m.length) (a := 24) (k := ((8 + 2 * l.length : Nat) : Int)) hs (by decide) (by omega) (by omega)
  refine ⟨(jwords l).getD i 0, jwords l, spoil l i ch b, splice m 24 (spoil l i ch b), ⟨hjl, spoil_length _ _ _ _, q1, h0, rfl, hat, fun W h => ?_, fun A2 c2 W ha h => ?_, fun A2 c2 W h => ?_⟩, y0, by omega⟩
  · have h1 := journal_any l m.length B d W h wf
    have hr1 : jrL l m.length = jwords l := by simp [jrL, p3]
    rwa [p3, hr1] at h1
  · exact imagePut_at2 m (spoil l i ch b) _ _ rfl (spoil_length _ _ _ _) A c 24 A2 c2 W ha h g1
  · have h3 := commitRead_at (splice m 24 (spoil l i ch b)) _ q1 A2 c2 W h (wf_splice' wm q2)
    rwa [q3, q4] at h3
end Go.Proofs.Ytlhlnenpgcndkaa
