/- The contract of Token of the digest. Conditions: where the bytes lie, the table of rounds, sizes. -/
import Derived.Test.YtoccfgkblognfaaDoorDgF
import Derived.Laws.AppendOwn
import Derived.Laws.BytesArg
import Derived.Deep.RegionLaw
namespace Go.Proofs.YtoccfgkblognfaaDoor
open Go.RowKit
def hexd (n : Int) : Int := if n < 10 then 48 + n else 87 + n
def hex2 (x : Int) : List Int := [hexd (x / 16), hexd (x % 16)]
def tokenL (bs : List Int) : List Int := ((digestL bs).take 16).flatMap hex2
def hexS : ByteArray := ⟨#[48, 49, 50, 51, 52, 53, 54, 55, 56, 57, 97, 98, 99, 100, 101, 102]⟩
theorem hex_idx (n : Nat) (h : n < 16) : ∀ W : World, (Instr.index 9 (.string hexS) (.int .u8 (n : Int))).run Tryd.prog W = .ok (.int .u8 (hexd n)) W := by
  intro W
  match n, h with
  | 0, _ => exact (show (Instr.index 9 (.string hexS) (.int .u8 0)).run Tryd.prog W = .ok (.int .u8 48) W from by rw [run_index_string _ _ _ _ _ Tryd.underlying9]; rfl)
  | 1, _ => exact (show (Instr.index 9 (.string hexS) (.int .u8 1)).run Tryd.prog W = .ok (.int .u8 49) W from by rw [run_index_string _ _ _ _ _ Tryd.underlying9]; rfl)
  | 2, _ => exact (show (Instr.index 9 (.string hexS) (.int .u8 2)).run Tryd.prog W = .ok (.int .u8 50) W from by rw [run_index_string _ _ _ _ _ Tryd.underlying9]; rfl)
  | 3, _ => exact (show (Instr.index 9 (.string hexS) (.int .u8 3)).run Tryd.prog W = .ok (.int .u8 51) W from by rw [run_index_string _ _ _ _ _ Tryd.underlying9]; rfl)
  | 4, _ => exact (show (Instr.index 9 (.string hexS) (.int .u8 4)).run Tryd.prog W = .ok (.int .u8 52) W from by rw [run_index_string _ _ _ _ _ Tryd.underlying9]; rfl)
  | 5, _ => exact (show (Instr.index 9 (.string hexS) (.int .u8 5)).run Tryd.prog W = .ok (.int .u8 53) W from by rw [run_index_string _ _ _ _ _ Tryd.underlying9]; rfl)
  | 6, _ => exact (show (Instr.index 9 (.string hexS) (.int .u8 6)).run Tryd.prog W = .ok (.int .u8 54) W from by rw [run_index_string _ _ _ _ _ Tryd.underlying9]; rfl)
  | 7, _ => exact (show (Instr.index 9 (.string hexS) (.int .u8 7)).run Tryd.prog W = .ok (.int .u8 55) W from by rw [run_index_string _ _ _ _ _ Tryd.underlying9]; rfl)
  | 8, _ => exact (show (Instr.index 9 (.string hexS) (.int .u8 8)).run Tryd.prog W = .ok (.int .u8 56) W from by rw [run_index_string _ _ _ _ _ Tryd.underlying9]; rfl)
  | 9, _ => exact (show (Instr.index 9 (.string hexS) (.int .u8 9)).run Tryd.prog W = .ok (.int .u8 57) W from by rw [run_index_string _ _ _ _ _ Tryd.underlying9]; rfl)
  | 10, _ => exact (show (Instr.index 9 (.string hexS) (.int .u8 10)).run Tryd.prog W = .ok (.int .u8 97) W from by rw [run_index_string _ _ _ _ _ Tryd.underlying9]; rfl)
  | 11, _ => exact (show (Instr.index 9 (.string hexS) (.int .u8 11)).run Tryd.prog W = .ok (.int .u8 98) W from by rw [run_index_string _ _ _ _ _ Tryd.underlying9]; rfl)
  | 12, _ => exact (show (Instr.index 9 (.string hexS) (.int .u8 12)).run Tryd.prog W = .ok (.int .u8 99) W from by rw [run_index_string _ _ _ _ _ Tryd.underlying9]; rfl)
  | 13, _ => exact (show (Instr.index 9 (.string hexS) (.int .u8 13)).run Tryd.prog W = .ok (.int .u8 100) W from by rw [run_index_string _ _ _ _ _ Tryd.underlying9]; rfl)
  | 14, _ => exact (show (Instr.index 9 (.string hexS) (.int .u8 14)).run Tryd.prog W = .ok (.int .u8 101) W from by rw [run_index_string _ _ _ _ _ Tryd.underlying9]; rfl)
  | 15, _ => exact (show (Instr.index 9 (.string hexS) (.int .u8 15)).run Tryd.prog W = .ok (.int .u8 102) W from by rw [run_index_string _ _ _ _ _ Tryd.underlying9]; rfl)
  | n + 16, h => exact absurd h (by omega)
theorem be4_range (x y : Int) (h : y ∈ be4 x) : 0 ≤ y ∧ y < 256 := by
  simp only [be4, List.mem_cons, List.not_mem_nil, or_false] at h
  omega
theorem digestL_range (all : List Int) (y : Int) (h : y ∈ digestL all) : 0 ≤ y ∧ y < 256 := by
  obtain ⟨x, _, hx⟩ := List.mem_flatMap.1 h
  exact be4_range x y hx
theorem owns_drew {w : World} {base e size n : Nat} {v : Value} {xs : List Value} (h : w.ownsRow base e size v n xs) : w.drew.ownsRow base e size v n xs := h
theorem step_append_own {P : Program} {w : World} {ops : Array Oper} {o : Oper} {a : Act} {K : Act → World → Prop} {Q : Exit → Act → World → Prop} {E : Prop} (hgd : o.guard = none) (s x : Operand) (t : TypeId)
    (ho : o.op = .call { callee := .builtin .append, args := #[s, x], argTypes := #[t, t] })
    (base : Nat) (e : TypeId) (i : TypeInfo) (z : Value) (size bytes : Nat) (ht : P.underlying t = some (.slice e)) (hi : P.info? e = some i) (hz : i.zero = some z)
    (hsize : i.size = size) (hby : i.bytes = bytes) (hzs : z.cells.size = size) (hsz : 0 < size)
    (v : Value) (n : Nat) (xs : List Value) (hs : a.eval s = v) (hown : w.ownsRow base e size v n xs)
    (ad : Addr) (m c : Nat) (news : List Value) (hx : a.eval x = .slice (some ad) m c) (hl : news.length = m * size) (hnews : ∀ j u, news[j]? = some u → w.cell? (ad.add j) = some u) (h1 : ∀ u ∈ news, u.oneCell' = true)
    (h63 : n + m ≤ maxLen) (hbytes : (n + m) * bytes ≤ 140737488355328) (hbase : base ≤ w.heap.size)
    (h : ∀ v' w', w'.ownsRow base e size v' (n + m) (xs ++ news) → w.grownBy w' v.ownBlock → (v' = .slice none 0 0 ↔ v = .slice none 0 0 ∧ m = 0) → K (a.put o.dst v') w') :
    if Region.wanted o (yielded ops a.tmps) = true then Oper.wp P o a w K Q else E := by
  have hw : Region.wanted o (yielded ops a.tmps) = true := by simp [Region.wanted, hgd]
  rw [if_pos hw]
  exact wp_append_own w s x t ho base e i z size bytes ht hi hz hsize hby hzs hsz v n xs hs hown ad m c news hx hl hnews h1 h63 hbytes hbase h
theorem pair_cells (wr : World) (x y : Value) : ∀ (j : Nat) (u : Value), [x, y][j]? = some u → (wr.alloc (.cells #[x, y] 5)).drew.cell? ((⟨wr.heap.size, 0, none⟩ : Addr).add j) = some u := by
  intro j u hu
  rw [Addr.add_mid]
  show (wr.alloc (.cells #[x, y] 5)).cell? _ = _
  rw [cell_of_row _ _ _ _ _ _ (heap_alloc_new wr _), Nat.zero_add]
  simpa using hu
theorem hex_step (d : List Int) (i : Nat) (x : Int) (hi : i < d.length) (hx : x = d.getD i 0) : (d.take (i + 1)).flatMap hex2 = (d.take i).flatMap hex2 ++ [hexd (x / 16), hexd (x % 16)] := by
  rw [List.take_succ_eq_append_getElem hi, List.flatMap_append, hx, List.getD_eq_getElem?_getD, List.getElem?_eq_getElem hi]
  rfl
theorem conv_own {w : World} {base n : Nat} {v : Value} {ds : List Int} (h : w.ownsRow base 5 1 v n (ds.map (Value.int .u8))) (h0 : 0 < n) : ∃ g cap, v = .slice (some ⟨g, 0, none⟩) n cap ∧ (convert 22 9 (.slice (some ⟨g, 0, none⟩) n cap)).run Tryd.prog w = .ok (.string (strOfNums ds)) w := by
  have hl : ds.length = n := by have := h.1; simpa using this
  rcases h.2 with ⟨_, h2⟩ | ⟨g, cap, cur, hv, _⟩
  · omega
  · refine ⟨g, cap, hv, run_convert_bytes_arg w 22 5 Tryd.underlying22 Tryd.underlying5 g 0 n cap ds hl (fun i hi => ?_) 9 Tryd.underlying9⟩
    have := h.cells (g := g) (by rw [hv]; rfl) i (.int .u8 (ds.getD i 0)) (by rw [List.getElem?_map, List.getElem?_eq_getElem (by omega), List.getD_eq_getElem?_getD, List.getElem?_eq_getElem (by omega)]; rfl)
    rwa [Addr.add_mid] at this
def tokRel (w : World) (B : Nat) (d : List Int) (kq : Nat) (v4 v11 : Value) (wr : World) : Prop :=
  ∃ i : Nat, i + kq = 16 ∧ v11 = .int .i64 (i : Int) ∧ Aside (wr.ownsRow (B + 1) 5 1 v4 (2 * i) (((d.take i).flatMap hex2).map (Value.int .u8))) ∧ Aside (wr.heap[B]? = some (.cells (T.bs d) 24 (0, 0))) ∧ Aside (Below w.heap.size w wr) ∧ Aside (B + 1 ≤ wr.heap.size)
set_option maxHeartbeats 4000000 in
set_option maxRecDepth 100000 in
theorem T.Token (bs : List Int) (A : Option Addr) (cap : Nat) (w : World) (hsrc : Src w A bs) (hA : ∀ a, A = some a → a.block < w.heap.size) (hcap : bs.length ≤ cap) (hlen : bs.length ≤ 1152921504606846976) (hk : K64 w) :
    Calls Tryd.prog 12 #[.slice A bs.length cap] w fun e w' => e = .returned (.string (strOfNums (tokenL bs))) ∧ Below w.heap.size w w' := by
  have hz : ∀ W, (zeroValue 24).run Tryd.prog W = .ok (.agg T.z32) W := fun W => by
    have hi : (Tryd.prog.info? 24).map (·.zero) = some (some (.agg T.z32)) := by kernel_rfl
    obtain ⟨i, h1, h2⟩ := Option.map_eq_some_iff.1 hi
    simp [zeroValue, typeInfo, h1, h2]
  have hi24 : Aside ((Tryd.prog.info? 24).map (·.size) = some 32) := ⟨by kernel_rfl⟩
  have hdl := Aside.mk (show (T.bs (digestL bs)).size = 32 from by simp only [T.bs, List.size_toArray, List.length_map]; exact digestL_length bs)
  have hdn := Aside.mk (digestL_length bs)
  have hOf := Aside.mk (T.Of bs A cap w hsrc hA hcap hlen hk)
  have hin : (Tryd.prog.info? 5).map (fun i => (i.zero, i.size, i.bytes)) = some (some (.int .u8 0), 1, 1) := by kernel_rfl
  obtain ⟨i0, hi0, hp0⟩ := Option.map_eq_some_iff.1 hin
  simp only [Prod.mk.injEq] at hp0
  obtain ⟨hz0, hz1, hz2⟩ := hp0
  have HI := Aside.mk hi0
  have HZ0 := Aside.mk hz0
  have HZ1 := Aside.mk hz1
  have HZ2 := Aside.mk hz2
  clear hsrc hA hcap hlen hk hin hi0 hz0 hz1 hz2
  have hrange := Aside.mk (digestL_range bs)
  have htok : tokenL bs = ((digestL bs).take 16).flatMap hex2 := rfl
  have HTOK := Aside.mk htok
  clear htok
  generalize digestL bs = d at *
  go_enter Tryd.func12, Tryd.ntmps12
  go_wp2_with (first | (go_at_call 10; refine hOf.out.mono ?_; rintro e w1 ⟨rfl, h1⟩; have H1 := Aside.mk h1; clear h1) | ((with_reducible refine wpList_store_row rfl 24 (.tmp 3) (.tmp 8) rfl w1.heap.size (T.bs d) rfl rfl 24 T.z32 ?hg ?hi ?hold (T.bs_one _) ?_); (case hg => exact heap_alloc_new w1 _); (case hi => rw [hdl.out]; exact hi24.out); (case hold => rw [hdl.out]; rfl)))
  go_loopg [4, 11] 16 (fun kq v4 v11 wr => tokRel w w1.heap.size d kq v4 v11 wr)
  case atStart =>
    refine ⟨0, rfl, rfl, ⟨by simpa using World.ownsRow_nil _ _ _ _⟩, ⟨setRow_heap _ _ _ _ _ _ (heap_alloc_new w1 _)⟩, ⟨Below_setRow (H1.out.alloc H1.out.size _) H1.out.size _⟩, ⟨by simp⟩⟩
  case round =>
    obtain ⟨i, hi, rfl, ho, hd, hB, hS⟩ := hrel
    have HI2 := Aside.mk hi
    by_cases hlt : i < 16
    · have cd := T.bs_cell hd.out i (by rw [hdn.out]; omega)
      obtain ⟨x, hx⟩ : ∃ x, x = d.getD i 0 := ⟨_, rfl⟩
      rw [← hx] at cd
      have hxr := hrange.out x (by rw [hx, List.getD_eq_getElem?_getD, List.getElem?_eq_getElem (by rw [hdn.out]; omega)]; exact List.getElem_mem _)
      have HX := Aside.mk hx
      obtain ⟨hn, hhn⟩ : ∃ hn : Nat, (hn : Int) = x / 16 := ⟨(x / 16).toNat, by omega⟩
      obtain ⟨ln, hln⟩ : ∃ ln : Nat, (ln : Int) = x % 16 := ⟨(x % 16).toNat, by omega⟩
      have e1 : x / 16 = (hn : Int) := hhn.symm
      have e2 : bits BinOp.and IntKind.u8 x 15 = (ln : Int) := by rw [u8_and15 x hxr.1 hxr.2]; exact hln.symm
      have hh1 := hex_idx hn (by omega)
      have hl1 := hex_idx ln (by omega)
      unfold hexS at hh1 hl1
      have HH := Aside.mk hhn
      have HL := Aside.mk hln
      clear hx hhn hln hi
      go_wp2
      have hstep := Aside.mk (hex_step d i x (by rw [hdn.out]; omega) HX.out)
      go_region_law ((refine step_append_own rfl (.tmp 15) (.tmp 22) 22 rfl (w1.heap.size + 1) 5 i0 (.int .u8 0) 1 1 Tryd.underlying22 HI.out HZ0.out HZ1.out HZ2.out rfl (by decide) u4 (2 * i) (((d.take i).flatMap hex2).map (Value.int .u8)) rfl ?ho ⟨wr.heap.size, 0, none⟩ 2 2 [.int .u8 (hexd hn), .int .u8 (hexd ln)] rfl rfl ?hnews ?h1 ?h63 ?hb ?hbase ?_); (case ho => exact owns_drew (ho.out.alloc _)); (case hnews => exact pair_cells wr _ _); (case h1 => intro u hu; simp at hu; rcases hu with rfl | rfl <;> rfl); (case h63 => unfold maxLen; omega); (case hb => omega); (case hbase => have := hS.out; simp; omega); intro v' w2 ho2 hg2 _; have HO2 := Aside.mk ho2; have HG2 := Aside.mk hg2; clear ho2 hg2)
      all_goals
        have hfin := Aside.mk (show w2.ownsRow (w1.heap.size + 1) 5 1 v' (2 * (i + 1)) (((d.take (i + 1)).flatMap hex2).map (Value.int .u8)) from by
          rw [hstep.out, List.map_append, ← HH.out, ← HL.out]; exact HO2.out)
        have hblk := Aside.mk (show w2.heap[w1.heap.size]? = some (.cells (T.bs d) 24 (0, 0)) from by
          rw [HG2.out.block _ (by simp; have := hS.out; omega) (fun e => by have := ho.out.lt _ e.symm; omega)]
          exact (Below.heap_alloc wr _ _ (by have := hS.out; omega)).trans hd.out)
        have hbel := Aside.mk (Below.grown (hB.out.alloc hB.out.size (.cells #[.int .u8 (hexd hn), .int .u8 (hexd ln)] 5)).drew HG2.out (by simp; have := hB.out.size; omega) (fun k e => by have := ho.out.lt _ e; have := H1.out.size; omega))
        have hsz := Aside.mk (show w1.heap.size + 1 ≤ w2.heap.size from by have := HG2.out.size; simp at this; have := hS.out; omega)
        go_wp2
        go_roundg (gk - 1)
        case measure => have := HI2.out; omega
        case rel => exact ⟨i + 1, by have := HI2.out; omega, by go_num, hfin, hblk, hbel, hsz⟩
    · have hi16 : i = 16 := by omega
      subst hi16
      obtain ⟨g, cap2, rfl, hcv⟩ := conv_own ho.out (by decide)
      clear hlt hi
      go_wp2
      go_ret
      exact ⟨by rw [HTOK.out]; rfl, hB.out⟩
end Go.Proofs.YtoccfgkblognfaaDoor
