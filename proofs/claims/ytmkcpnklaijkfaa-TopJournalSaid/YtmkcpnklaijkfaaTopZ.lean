/-
  An append of zeros ('append(x, make([]uint64, k)...)') to a row of one's own, with room or without.
-/
import Derived.Test.YtmkcpnklaijkfaaGA
import Derived.Lib.AppendZerosOnto
namespace Go.Proofs.Ytmkcpnklaijkfaa
open Go.RowKit
theorem zeroCells_one (z : Value) (n : Nat) : (Builtin.zeroCells #[z] n).toList = List.replicate n z := by
  apply List.ext_getElem?
  intro j
  by_cases hj : j < n
  · simp [Builtin.zeroCells, hj, Nat.mod_one]
  · simp [Builtin.zeroCells, hj]
theorem run_app_zeros {P : Program} {w : World} {t tn e : TypeId} {i : TypeInfo} (ty : TypeId) (z : Value) (ht : P.underlying t = some (.slice e)) (htn : P.underlying tn = some (.int .i64)) (hi : P.info? e = some i) (hz : i.zero = some z) (hs : i.size = 1) (hb : i.bytes = 8) (hzc : z.cells = #[z]) (hz1 : z.oneCell' = true)
    {base n : Nat} {v : Value} {xs : List Value} (hown : w.ownsRow base e 1 v n xs) (hn : 0 < n) (kq : IntKind) (k : Nat) (hk : 0 < k) (hsm : n + k ≤ 100000) (hbase : base ≤ w.heap.size) :
    ∃ v' w', (Builtin.append_ #[t, tn] ty #[v, .int kq (k : Int)]).run P w = .ok v' w' ∧ w'.ownsRow base e 1 v' (n + k) (xs ++ List.replicate k z) ∧ Below base w w' := by
  rcases hown.2 with ⟨_, h0⟩ | ⟨g, cap, cur, rfl, hbg, hg, hnc, hcm, hcs, htake⟩
  · omega
  · have hxl := hown.1
    have hlen : (xs ++ List.replicate k z).length = (n + k) * 1 := by rw [List.length_append, hxl, List.length_replicate]; omega
    rw [Nat.mul_one] at htake hcs hxl
    by_cases hroom : n + k ≤ cap
    · have hw : IntKind.i64.wrap (k : Int) = k := by rw [IntKind.wrap_i64]; omega
      have hneg : ¬ ((k : Int) < 0) := by omega
      have h48i : ¬ (281474976710656 < (k : Int) * (i.bytes : Int)) := by rw [hb]; omega
      have hk0 : ¬ k = 0 := by omega
      have hzl := zeroCells_one z k
      have hst := run_storeCells_at P g n e (List.replicate k z) 0 cur w hg (by rw [List.length_replicate]; omega) (fun u hu => by rw [List.eq_of_mem_replicate hu]; exact hz1)
      simp only [Nat.add_zero] at hst
      have hrun : (Builtin.append_ #[t, tn] ty #[.slice (some ⟨g, 0, none⟩) n cap, .int kq (k : Int)]).run P w = .ok (.slice (some ⟨g, 0, none⟩) (n + k) cap) (w.setRow g (cur.toList.take n ++ List.replicate k z ++ cur.toList.drop (n + (List.replicate k z).length)).toArray) := by
        simp [Builtin.append_, run_underlying ht, run_underlying htn, sizeOf, typeInfo, zeroValue, hi, hz, hs, asInt, asIntOf, hw, hk0, hneg, h48i, hroom, Addr.add_lit, hzc, hzl]
        simp only [List.append_assoc, List.length_replicate] at hst
        rw [hst]
        simp [Result.andThen_ok]
      refine ⟨_, _, hrun, ⟨hlen, .inr ⟨g, cap, _, rfl, hbg, setRow_heap w g cur _ e _ hg, hroom, hcm, ?_, ?_⟩⟩, (Below.refl base w).grown (row := some g) ⟨rfl, rfl, rfl, by simp, fun j _ hj => setRow_other w g j _ (fun e => hj (by rw [e]))⟩ hbase (fun j hj => by injection hj with hj; omega)⟩
      · simp only [List.size_toArray, List.length_append, List.length_take, List.length_drop, Array.length_toList, List.length_replicate]
        omega
      · rw [htake, ← hlen]
        exact List.take_left
    · have hold : (Builtin.firstCells i.size n (.slice (some ⟨g, 0, none⟩) n cap)).run P w.drew = .ok xs.toArray w.drew :=
        run_firstCells_some w.drew i.size n ⟨g, 0, none⟩ n cap xs (by rw [hs, hxl, Nat.mul_one]) fun j u hu => (World.ownsRow.cells hown (g := g) rfl j u hu)
      have hrun := Lib.run_append_grow_zeros w t tn ty e i z kq .i64 ht htn hi hz (some ⟨g, 0, none⟩) n cap xs hold k hk (by omega) (by omega) (by omega) (by rw [hb]; omega) (by rw [hb]; exact growslice_fits (by omega) (by omega))
      have hge := grownCap_ge w (n + k) cap e
      have hmx := grownCap_le_maxLen w (n + k) cap e (by unfold maxLen; omega)
      refine ⟨_, _, hrun, ⟨hlen, .inr ⟨w.heap.size, _, _, rfl, hbase, heap_alloc_new w.drew _, hge, hmx, ?_, ?_⟩⟩, (Below.refl base w).grown (row := none) ⟨rfl, rfl, rfl, by simp, fun j hj _ => heap_alloc_old w.drew _ hj⟩ hbase (fun j hj => by cases hj)⟩
      · simp only [Array.size_append, List.size_toArray, size_zeroCells, hzc, hxl]
        show n + k * 1 + _ * 1 = _
        omega
      · simp only [Array.toList_append, hzc, zeroCells_one]
        rw [← hlen]
        exact List.take_left
theorem wpList_app_zeros {w : World} {ops : Array Oper} {rest : List Oper} {o : Oper} {a : Act} {Q : Exit → Act → World → Prop} (hgd : o.guard = none) (s x : Operand)
    (ho : o.op = .call { callee := .builtin .append, args := #[s, x], argTypes := #[29, 3] })
    {base n : Nat} {v : Value} {m : List Int} (hsv : a.eval s = v) (hown : w.ownsRow base 24 1 v n (fU m)) (hn : 0 < n) {kq : IntKind} (k : Nat) (hx : a.eval x = .int kq (k : Int)) (hk : 0 < k) (hsm : n + k ≤ 100000) (hbase : base ≤ w.heap.size)
    (h : ∀ v' w', w'.ownsRow base 24 1 v' (n + k) (fU (m ++ zerosU k)) → Below base w w' → wpList Try.prog ops Q rest (a.put o.dst v') w') : wpList Try.prog ops Q (o :: rest) a w := by
  obtain ⟨i, hi, hz, hs, hb⟩ := info_parts (show (Try.prog.info? 24).map (fun i => (i.zero, i.size, i.bytes)) = some (some (.int .u64 0), 1, 8) by kernel_rfl)
  obtain ⟨v', w', hrun, h2, h3⟩ := run_app_zeros (P := Try.prog) o.type (.int .u64 0) Try.underlying29 Try.underlying3 hi hz hs hb rfl rfl hown hn kq k hk hsm hbase
  have e1 : fU m ++ List.replicate k (.int .u64 0) = fU (m ++ zerosU k) := by simp [fU, zerosU]
  rw [e1] at h2
  exact Lib.wpList_append_run w hgd s x 29 3 ho v _ hsv hx v' w' hrun (h v' w' h2 h3)
end Go.Proofs.Ytmkcpnklaijkfaa
