/- slices.Delete at a row of the call's own: the row without the one thing. Conditions: where the row lies. -/
import Derived.Test.YtmlnjelhiemlpaaNetBI
import Derived.Test.YtmlnjelhiemlpaaNetBS
namespace Go.Proofs.Ytmlnjelhiemlpaa
open Go.RowKit Go.Proofs.YtmlnjelhiemlpaaW.PrintWords Go.Proofs.YtmlnjelhiemlpaaW.PrintLast Go.Proofs.YtmlnjelhiemlpaaW.PrintMore
theorem setCells_row (g : Nat) : ∀ (vs : List Value) (o : Nat) (w : World) (cur : Array Value) (t : Nat), w.heap[g]? = some (.cells cur t (0, 0)) → o + vs.length ≤ cur.size →
    ∃ cur' : Array Value, (w.setCells g o vs).heap[g]? = some (.cells cur' t (0, 0)) ∧ cur'.size = cur.size ∧ ∀ j : Nat, cur'[j]? = if o ≤ j ∧ j < o + vs.length then vs[j - o]? else cur[j]?
  | [], o, w, cur, t, h, _ => ⟨cur, h, rfl, fun j => by rw [if_neg (by simp)]⟩
  | v :: r, o, w, cur, t, h, hl => by
    simp only [List.length_cons] at hl
    have h1 := heap_setCell_same w g o cur t v h
    obtain ⟨cur', h2, h3, h4⟩ := setCells_row g r (o + 1) _ _ t h1 (by simp; omega)
    refine ⟨cur', h2, by rw [h3]; simp, fun j => ?_⟩
    rw [h4]
    by_cases hj : o + 1 ≤ j ∧ j < o + 1 + r.length
    · rw [if_pos hj, if_pos (by simp only [List.length_cons]; omega), show j - o = (j - (o + 1)) + 1 from by omega, List.getElem?_cons_succ]
    · rw [if_neg hj]
      by_cases ho : j = o
      · subst ho
        rw [if_pos (by simp only [List.length_cons]; omega), Nat.sub_self, Array.getElem?_setIfInBounds_self_of_lt (by omega)]
        rfl
      · rw [if_neg (by simp only [List.length_cons]; omega), Array.getElem?_setIfInBounds_ne (fun e => ho e.symm)]
theorem grownBy_setCells (g : Nat) : ∀ (vs : List Value) (o : Nat) (w w0 : World), w0.grownBy w (some g) → w0.grownBy (w.setCells g o vs) (some g)
  | [], _, _, _, h => h
  | v :: r, o, w, w0, h => grownBy_setCells g r (o + 1) _ w0 ⟨h.os, h.tape, h.output, by simpa [World.setCell] using h.size, fun k hk hne => by rw [Below.heap_setCell _ _ _ _ (fun e => hne (congrArg some e))]; exact h.block k hk hne⟩
/-- The core: n cells written at the head of a row; its first m are the row now. -/
theorem row_cut {w : World} {base e g n m c q : Nat} {xs vs ys : List Value} (h : w.ownsRow base e 1 (.slice (some ⟨g, 0, none⟩) n c) n xs) (hv : vs.length = n) (hm : m ≤ n) (hy : vs.take m = ys) (hyl : ys.length = m) :
    ((w.drewN q).setCells g 0 vs).ownsRow base e 1 (.slice (some ⟨g, 0, none⟩) m c) m ys ∧ w.grownBy ((w.drewN q).setCells g 0 vs) (some g) := by
  refine ⟨?_, grownBy_setCells g vs 0 _ w ⟨rfl, rfl, rfl, Nat.le_refl _, fun k _ _ => rfl⟩⟩
  rcases h.2 with ⟨he, _⟩ | ⟨g', cap, cur, he, hg, hh, hn, hmx, hs, _⟩
  · cases he
  · obtain ⟨rfl, rfl⟩ : g = g' ∧ c = cap := by simpa using he
    obtain ⟨cur', h2, h3, h4⟩ := setCells_row g vs 0 (w.drewN q) cur e hh (by omega)
    refine ⟨by omega, .inr ⟨g, c, cur', rfl, hg, h2, by omega, hmx, by omega, ?_⟩⟩
    rw [← hy, Nat.mul_one]
    refine List.ext_getElem? fun j => ?_
    rw [List.getElem?_take, List.getElem?_take]
    split
    · rename_i hj
      rw [Array.getElem?_toList, h4, if_pos (by omega), Nat.sub_zero]
    · rfl
theorem DelI (g base c i : Nat) (L : List Int) (w : World) (h : RowI w base (.slice (some ⟨g, 0, none⟩) L.length c) L) (hi : i < L.length) :
    Calls Try.prog 34 #[.slice (some ⟨g, 0, none⟩) L.length c, .int .i64 (i : Int), .int .i64 ((i + 1 : Nat) : Int)] w fun e w' => e = .returned (.slice (some ⟨g, 0, none⟩) (L.length - 1) c) ∧ RowI w' base (.slice (some ⟨g, 0, none⟩) (L.length - 1) c) (L.eraseIdx i) ∧ w.grownBy w' (some g) := by
  rcases h.slice with ⟨he, _⟩ | ⟨g', c', cur, he, _, hc, hm, hh, hS⟩
  · cases he
  · obtain ⟨rfl, rfl⟩ : g = g' ∧ c = c' := by simpa using he
    refine (Try.slices_Delete_int_cells g 0 L.length c i (i + 1) L w (Nat.le_refl _) hc hm (by omega) (by omega) (fun j hj => ?_) (fun j _ => frozen_of_row w g _ _ _ hh)).mono ?_
    · obtain ⟨b, o, he2, hcl⟩ := hS j _ (List.getElem?_eq_getElem hj)
      obtain ⟨rfl, rfl⟩ : g = b ∧ 0 = o := by simpa using he2
      rw [hcl, List.getD_eq_getElem?_getD, List.getElem?_eq_getElem hj]; rfl
    · rintro e w' ⟨rfl, q, rfl⟩
      rw [List.take_length, show i + 1 - i = 1 from by omega]
      have hel : (L.eraseIdx i).length = L.length - 1 := List.length_eraseIdx_of_lt hi
      have := row_cut (q := q) (m := L.length - 1) (vs := (L.take i ++ L.drop (i + 1) ++ List.replicate 1 0).map (Value.int .i64)) (ys := (L.eraseIdx i).map (Value.int .i64)) h (by simp; omega) (by omega) (by
        rw [List.eraseIdx_eq_take_drop_succ, List.map_append, List.take_append_of_le_length (by simp; omega), List.take_of_length_le (by simp; omega)]) (by rw [List.length_map, hel])
      refine ⟨rfl, ?_, this.2⟩
      unfold RowI
      rw [hel]
      exact this.1
theorem strs_map (L : List ByteArray) : Lib.strsOf (fun j => L.getD j ⟨#[]⟩) L.length = L.map fun s => s.data.toList := by
  refine List.ext_getElem? fun i => ?_
  unfold Lib.strsOf
  rw [List.getElem?_map, List.getElem?_map]
  by_cases hi : i < L.length
  · rw [List.getElem?_range hi, List.getElem?_eq_getElem hi]
    simp [List.getD_eq_getElem?_getD, List.getElem?_eq_getElem hi]
  · rw [List.getElem?_eq_none (by simp; omega), List.getElem?_eq_none (by omega)]; rfl
theorem enc_map (L : List ByteArray) : (L.map fun s => s.data.toList).map encStr = L.map Value.string := by
  rw [List.map_map]
  exact List.map_congr_left fun s _ => rfl
theorem DelS (g base c i : Nat) (L : List ByteArray) (w : World) (h : RowS w base (.slice (some ⟨g, 0, none⟩) L.length c) L) (hi : i < L.length) :
    Calls Try.prog 39 #[.slice (some ⟨g, 0, none⟩) L.length c, .int .i64 (i : Int), .int .i64 ((i + 1 : Nat) : Int)] w fun e w' => e = .returned (.slice (some ⟨g, 0, none⟩) (L.length - 1) c) ∧ RowS w' base (.slice (some ⟨g, 0, none⟩) (L.length - 1) c) (L.eraseIdx i) ∧ w.grownBy w' (some g) := by
  rcases h.slice with ⟨he, _⟩ | ⟨g', c', cur, he, _, hc, hm, hh, hS⟩
  · cases he
  · obtain ⟨rfl, rfl⟩ : g = g' ∧ c = c' := by simpa using he
    refine (Try.slices_Delete_string_cells g 0 L.length c i (i + 1) (fun j => L.getD j ⟨#[]⟩) w hc hm (by omega) (by omega) (fun j hj => ?_) (fun j _ => frozen_of_row w g _ _ _ hh)).mono ?_
    · obtain ⟨b, o, he2, hcl⟩ := hS j _ (List.getElem?_eq_getElem hj)
      obtain ⟨rfl, rfl⟩ : g = b ∧ 0 = o := by simpa using he2
      rw [hcl, List.getD_eq_getElem?_getD, List.getElem?_eq_getElem hj]; rfl
    · rintro e w' ⟨rfl, q, rfl⟩
      rw [show i + 1 - i = 1 from by omega, strs_map]
      have hel : (L.eraseIdx i).length = L.length - 1 := List.length_eraseIdx_of_lt hi
      have := row_cut (q := q) (m := L.length - 1) (vs := ((L.map fun s : ByteArray => s.data.toList).take i ++ (L.map fun s : ByteArray => s.data.toList).drop (i + 1) ++ List.replicate 1 []).map encStr) (ys := (L.eraseIdx i).map Value.string) h (by simp; omega) (by omega) (by
        rw [List.eraseIdx_eq_take_drop_succ, List.map_append, List.take_append_of_le_length (by simp; omega), List.take_of_length_le (by simp; omega), ← List.map_take, ← List.map_drop, ← List.map_append, enc_map]) (by rw [List.length_map, hel])
      refine ⟨rfl, ?_, this.2⟩
      unfold RowS
      rw [hel]
      exact this.1
theorem Fr.of_below {w w1 w2 : World} {H : Nat} {r : Option Nat} (hb : Below w.heap.size w w1) (h : Fr w1 w2 H r) : Fr w w2 H r :=
  ⟨h.os.trans hb.os, h.tape.trans hb.tape, h.output.trans hb.output, Nat.le_trans hb.size h.size, fun k hk h1 h2 => (h.block k (Nat.lt_of_lt_of_le hk hb.size) h1 h2).trans (hb.block k hk)⟩
end Go.Proofs.Ytmlnjelhiemlpaa
