/-
  The contract of 'Check' on entries.
-/
import Derived.Test.YtibeolemelmpcaaSet
import Derived.Deep.Light
namespace Go.Proofs.Ytibeolemelmpcaa
open Go.RowKit

theorem okFrom_at {words : Int} {S : List Int} {l : List (Int × Int)} {k : Nat} {x : Int × Int} (hx : l[k]? = some x) :
    okFrom words S (l.drop k) = (mayB x.1 words && !S.contains x.1 && okFrom words (x.1 :: S) (l.drop (k + 1))) := by
  obtain ⟨hlt, rfl⟩ := List.getElem?_eq_some_iff.1 hx
  rw [List.drop_eq_getElem_cons hlt]
  rfl
theorem mem_of_at {α : Type} {l : List α} {k : Nat} {x : α} (hx : l[k]? = some x) : x ∈ l := List.mem_of_getElem? hx

set_option maxHeartbeats 800000 in
theorem entryCheck_any (l : List (Int × Int)) (words : Int) (A : Option Addr) (c : Nat) (w : World) (hA : Sl w A l.length c (fE l)) (wf : WfE l) :
    Calls Try.prog 33 #[.slice A l.length c, .int .i64 words] w fun e w' => e = .returned (.int .i64 (chkE l words)) ∧ Ext w w' := by
  by_cases hs : sizeB words = true
  · have hz : szE words = 0 := by simp [szE, hs]
    by_cases hn : l.length ≤ 32
    · have hck : Hid (chkE l words = if okFrom words [] l then 0 else 8) := Lib.hid (by simp [chkE, hs]; intro h; omega)
      have hd : decide (32 < (l.length : Int)) = false := decide_eq_false (by omega)
      clear hs
      go_enter Try.func33, Try.ntmps33
      go_wp2_with (go_at_call 47; refine (entrySize_any _ _).mono ?_; rintro e w' ⟨rfl, rfl⟩)
      go_loopw [19] (fun i wr => ∃ k S, k ≤ l.length ∧ i = .int .i64 (k : Nat) ∧ SetSt wr w.heap.size w.heap.size S ∧ S.length = k ∧ okFrom words [] l = okFrom words S (l.drop k) ∧ Ext w wr) (fun i _ => l.length - (intOf i).toNat)
      case atStart => exact ⟨0, [], Nat.zero_le _, rfl, SetSt.new (Nat.le_refl _), rfl, rfl, (Ext.refl w).alloc _⟩
      case round =>
        obtain ⟨k, S, hk, rfl, hset, hSk, hok, hx⟩ := hrel
        by_cases hlt : k < l.length
        · obtain ⟨a, x, rfl, hat, g1, g2⟩ := (hA.ext hx).e_at hlt
          have hstep := okFrom_at (words := words) (S := S) hat
          have Hstep := Lib.hid (hok.trans hstep)
          have hwf := (wf x (mem_of_at hat)).1
          have HSk := Lib.hid hSk; have Hset := Lib.hid hset
          clear hstep hok hat hSk hset
          by_cases hm : mayB x.1 words = true
          · by_cases hc : x.1 ∈ S
            · go_wp2_with (first | (go_at_call 48; refine (entryMay_any _ _ _).mono ?_; rintro e w' ⟨rfl, rfl⟩) | (go_at_call 49; refine (add_any _ w.heap.size w.heap.size S x.1 hwf (Hset.out.alloc _) (by rw [HSk.out]; omega) (by simp; have := hx.size; omega)).mono ?_; rintro e w2 ⟨rfl, hset2, hb2⟩))
              go_ret
              refine ⟨ret_int ?_, Below.trans (hx.alloc _) hb2⟩
              rw [hck.out, Hstep.out]
              simp [hc]
            · go_wp2_with (first | (go_at_call 48; refine (entryMay_any _ _ _).mono ?_; rintro e w' ⟨rfl, rfl⟩) | (go_at_call 49; refine (add_any _ w.heap.size w.heap.size S x.1 hwf (Hset.out.alloc _) (by rw [HSk.out]; omega) (by simp; have := hx.size; omega)).mono ?_; rintro e w2 ⟨rfl, hset2, hb2⟩))
              go_roundw
              case rel =>
                refine ⟨k + 1, x.1 :: S, by omega, by go_num, hset2, by simp [HSk.out], ?_, Below.trans (hx.alloc _) hb2⟩
                rw [Hstep.out]
                simp [hm, hc]
              case measure => simp [intOf]; omega
          · have hm' : mayB x.1 words = false := by simpa using hm
            go_wp2_with (go_at_call 48; refine (entryMay_any _ _ _).mono ?_; rintro e w' ⟨rfl, rfl⟩)
            go_ret
            refine ⟨ret_int ?_, hx.alloc _⟩
            rw [hck.out, Hstep.out]
            simp [hm']
        · go_wp2
          go_ret
          refine ⟨ret_int ?_, hx⟩
          rw [hck.out, hok, List.drop_eq_nil_of_le (by omega)]
          rfl
    · have hck : Hid (chkE l words = 4) := Lib.hid (by simp [chkE, hs]; intro h; omega)
      go_enter Try.func33, Try.ntmps33
      go_wp2_with (go_at_call 47; refine (entrySize_any _ _).mono ?_; rintro e w' ⟨rfl, rfl⟩)
      go_ret
      exact ⟨ret_int hck.out.symm, Ext.refl w⟩
  · have hz : szE words = 2 := by simp [szE, hs]
    have hck : Hid (chkE l words = 2) := Lib.hid (by simp [chkE, hs])
    go_enter Try.func33, Try.ntmps33
    go_wp2_with (go_at_call 47; refine (entrySize_any _ _).mono ?_; rintro e w' ⟨rfl, rfl⟩)
    go_ret
    exact ⟨ret_int hck.out.symm, Ext.refl w⟩
end Go.Proofs.Ytibeolemelmpcaa
