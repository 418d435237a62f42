/-
  The library's slices.IndexFunc with the closure of cache.Fence.
-/
import Derived.Test.YtmmcbleoglgamaaDFen
namespace Go.Proofs.Ytmmcbleoglgamaa
open Go.RowKit
theorem fenD_no {q : List Dw} {k : Nat} {x : Dw} (h : q[k]? = some x) (hf : x.2.2 = false) (hq : fenD (q.take k) = q.take k) : fenD (q.take (k + 1)) = q.take (k + 1) := by
  have := fen_take (m := []) h
  rw [hf] at this
  rw [this.2, hq, List.take_add_one, h]
  rfl
/-- The first flushed word's place, its word stored into the image; or -1. -/
def IdxR (w0 : World) (pb ga g n c1 k d1 : Nat) (m : List Int) (q : List Dw) (L : Int) (down : Bool) (en : Ending) (w' : World) : Prop :=
  (en = .returned (.int .i64 (-1)) ∧ fenD q = q ∧ FS w0 w' pb ga g n c1 k d1 m k q L down) ∨
  ∃ (i : Nat) (x : Dw), q[i]? = some x ∧ x.2.2 = true ∧ fenD (q.take i) = q.take i ∧ en = .returned (.int .i64 i) ∧ FS w0 w' pb ga g n c1 k d1 (m.set x.1.toNat x.2.1) k q L down
set_option maxRecDepth 100000 in
set_option maxHeartbeats 1600000 in
theorem idx_any {w0 : World} {pb ga g n c1 k d1 : Nat} {m : List Int} {q : List Dw} {L : Int} {down : Bool} (w : World) (h : FS w0 w pb ga g n c1 k d1 m k q L down) (hasc : ascB m.length (-1) q = true) (hn : m.length ≤ 2048) (hk : k ≤ 100000) :
    Calls Try.prog 74 #[.slice (some ⟨g, 0, none⟩) k d1, .func (.func 62) #[] #[.pointer (some ⟨pb, 0, none⟩)]] w (IdxR w0 pb ga g n c1 k d1 m q L down) := by
  have H0 := Lib.hid hasc
  have hql := h.len
  have HQ := Lib.hid hql
  clear hasc hql
  go_enter Try.func74, Try.ntmps74
  go_wp2_with fail
  go_loopw [8] (fun i wr => ∃ j : Nat, j ≤ k ∧ i = .int .i64 j ∧ FS w0 wr pb ga g n c1 k d1 m k q L down ∧ Hid (fenD (q.take j) = q.take j)) (fun i _ => k - (intOf i).toNat)
  case atStart => exact ⟨0, Nat.zero_le _, rfl, h, Lib.hid rfl⟩
  case round =>
    clear h
    obtain ⟨j, hj, rfl, hS, hF⟩ := hrel
    by_cases hlt : j < k
    · obtain ⟨x, hat, g0, g1, g2, gf⟩ := own_at_D hS.row (i := j) (by rw [HQ.out]; exact hlt)
      obtain ⟨r0, r1⟩ := ascB_mem H0.out x (List.mem_of_getElem? hat)
      have HS := Lib.hid hS
      have HX := Lib.hid hat
      clear hS hat
      cases hf : x.2.2 with
      | false =>
        rw [hf] at g2
        have HF := Lib.hid hf
        clear hf
        go_wp2_with fail
        refine (fenF_no _ _ _ _).mono ?_
        rintro e w1 ⟨rfl, hx1⟩
        go_wp2_with fail
        go_roundw
        case rel => exact ⟨j + 1, by omega, by go_num, HS.out.ext hx1, Lib.hid (fenD_no HX.out HF.out hF.out)⟩
        case measure => simp [intOf]; omega
      | true =>
        rw [hf] at g2
        have HF := Lib.hid hf
        clear hf
        go_wp2_with fail
        refine (fenF_yes _ _ (by omega) _ HS.out r1 hn).mono ?_
        rintro e w1 ⟨rfl, hS1⟩
        go_wp2_with fail
        go_ret
        exact .inr ⟨j, x, HX.out, HF.out, hF.out, rfl, hS1⟩
    · obtain rfl : j = k := by omega
      have hq := hF.out
      rw [List.take_of_length_le (by rw [HQ.out]; omega)] at hq
      have HF := Lib.hid hq
      clear hq
      go_wp2_with fail
      go_ret
      exact .inl ⟨rfl, HF.out, hS⟩
end Go.Proofs.Ytmmcbleoglgamaa
