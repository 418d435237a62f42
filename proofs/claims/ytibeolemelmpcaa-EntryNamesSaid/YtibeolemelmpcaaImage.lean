/-
  The contracts of the words of an image: copying, getting, putting, comparing.
-/
import Derived.Test.YtibeolemelmpcaaCopy
import Derived.Laws.CopyOwn
namespace Go.Proofs.Ytibeolemelmpcaa
open Go.RowKit

/-- A slice of the call's own that is not empty begins at the head of a row. -/
theorem own_head' {w : World} {base : Nat} {e : TypeId} {size n : Nat} {A : Option Addr} {c : Nat} {xs : List Value} (h : w.ownsRow base e size (.slice A n c) n xs) (hn : 0 < n) : ∃ g, A = some ⟨g, 0, none⟩ ∧ base ≤ g := by
  rcases h.2 with ⟨hv, hz⟩ | ⟨g, cap, cur, hv, hb, _⟩
  · omega
  · injection hv with h1 h2 h3
    exact ⟨g, h1, hb⟩
theorem splice_take {α : Type} (cur : List α) (off n : Nat) (cs : List α) (h : off + cs.length ≤ n) (hn : n ≤ cur.length) : (splice cur off cs).take n = splice (cur.take n) off cs := by
  apply List.ext_getElem?
  intro i
  simp only [splice, List.getElem?_take, List.getElem?_append, List.getElem?_drop, List.length_take]
  rw [Nat.min_eq_left (by omega), Nat.min_eq_left (by omega)]
  (repeat' split) <;> first | rfl | omega | (congr 1; omega)

/-- 'copy' into a row of the call's own, cells one by one. -/
theorem wpList_copyU {P : Program} {w : World} {t e : TypeId} {bytes : Nat} (E : ElT P t e 1 bytes) {ops : Array Oper} {rest : List Oper} {o : Oper} {a : Act} {Q : Exit → Act → World → Prop} (hgd : o.guard = none) (d s : Operand) (sT : TypeId)
    (ho : o.op = .call { callee := .builtin .copy, args := #[d, s], argTypes := #[t, sT] })
    {base g n cap : Nat} {xs : List Value} (hown : w.ownsRow base e 1 (.slice (some ⟨g, 0, none⟩) n cap) n xs)
    {dp : Option Addr} {dLen dCap : Nat} (hd : a.eval d = .slice dp dLen dCap) {A : Option Addr} {m c : Nat} {news : List Value} (hs : a.eval s = .slice A m c) (hr : Sl w A m c news)
    (off : Nat) (hl : news.length = m) (hm : m ≤ dLen) (hdp : 0 < dLen → dp = some ⟨g, off, none⟩) (hoff : off + dLen ≤ n) (h1 : ∀ u ∈ news, u.oneCell' = true) (hbg : base ≤ g)
    (h : ∀ w', w'.ownsRow base e 1 (.slice (some ⟨g, 0, none⟩) n cap) n (splice xs off news) → Below base w w' → wpList P ops Q rest (a.put o.dst (goInt m)) w') :
    wpList P ops Q (o :: rest) a w := by
  obtain ⟨i, z, hi, hz, hsize, hby, hzs⟩ := E.inf
  obtain ⟨hxl, ⟨hv, _⟩ | ⟨g', cap', cur, hv, hb, hg, hn, hmx, hcs, htake⟩⟩ := hown
  · cases hv
  · injection hv with e1 e2 e3
    injection e1 with e1
    injection e1 with e1
    subst e1 e3
    refine wpList_copy_splice hgd d s t sT ho e E.und (by simp [hi, hsize]) dp A dLen dCap m c hd hs g off cur.toList e (by simpa using hg) news (by rw [hl]; exact (Nat.min_eq_left hm).symm)
      (fun h0 => ⟨hdp (by omega), hr.cells (by intro h2; subst h2; simp at h0)⟩) (by rw [hl]; simp [hcs]; omega) h1 base w (Below.refl _ _) hbg ?_
    intro w' hw' hb'
    rw [hl]
    refine h w' ⟨?_, .inr ⟨g, cap, (splice cur.toList off news).toArray, rfl, hb, hw'.out, hn, hmx, ?_, ?_⟩⟩ hb'
    · rw [length_splice _ _ _ (by rw [hl, hxl]; omega)]; exact hxl
    · simp only [List.size_toArray]
      rw [length_splice _ _ _ (by rw [hl]; simp [hcs]; omega)]
      simpa using hcs
    · simp only
      rw [← htake]
      refine splice_take _ _ _ _ (by rw [hl]; omega) ?_
      simp [hcs]; omega
theorem splice_all {α : Type} (Z cs : List α) (h : cs.length = Z.length) : splice Z 0 cs = cs := by simp [splice, h]
theorem fU_splice (m : List Int) (off : Nat) (l : List Int) : splice (fU m) off (fU l) = fU (splice m off l) := by simp [splice, fU, List.map_take, List.map_drop]

set_option maxHeartbeats 400000 in
theorem imageClone_any (m : List Int) (A : Option Addr) (c : Nat) (w : World) (hA : Sl w A m.length c (fU m)) (hl : m.length ≤ 100000) :
    Calls Try.prog 46 #[.slice A m.length c] w (RetOwn w 23 1 m.length (fU m)) := by
  obtain ⟨i, z, hi, hz, hsize, hby, hzs⟩ := EU.inf
  go_enter Try.func46, Try.ntmps46
  go_wp2_with (first
    | (at_make; refine wpList_make_full _ rfl _ _ _ rfl w.heap.size 23 i z 1 EU.und hi hz hsize _ _ _ _ m.length rfl rfl rfl rfl (by rw [hby]; omega) (by unfold maxLen; omega) (Nat.le_refl _) ?_; intro w1 hown hgr)
    | (with_reducible refine wpList_copyU EU rfl (.tmp 7) (.tmp 8) _ rfl hown rfl rfl (hA.ext ((Ext.refl w).grown hgr (by simp))) 0 (by simp) (Nat.le_refl _) (fun _ => rfl) (by omega) (fU_one m) (Nat.le_refl _) ?_; intro w2 hown2 hbel2))
  go_ret
  rw [splice_all _ _ (by rw [hown.1]; simp)] at hown2
  exact retOwn_mk hown2 (Below.trans ((Ext.refl w).grown hgr (by simp)) hbel2)
end Go.Proofs.Ytibeolemelmpcaa
