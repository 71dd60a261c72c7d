/- The contract of the reference's Token: it answers with the same token. Conditions: bytes from 0 to 255, where they lie, sizes. -/
import Derived.Test.YtoccfgkblognfaaDoorDgQ
import Derived.Test.YtoccfgkblognfaaDoorDgTokens
namespace Go.Proofs.YtoccfgkblognfaaDoor
open Go.RowKit Go.Proofs.YtoccfgkblognfaaDoorW.PrintWords Go.Proofs.YtoccfgkblognfaaDoorW.PrintLast Go.Proofs.YtoccfgkblognfaaDoorW.PrintMore
theorem hex_slice (w : World) (n : Nat) (h : n < 16) : Sem.run Tryd.prog (Instr.slice 9 (.string { data := #[48, 49, 50, 51, 52, 53, 54, 55, 56, 57, 97, 98, 99, 100, 101, 102] }) (some (.int .u8 (n : Int))) (some (.int .u8 ((n : Int) + 1))) none) w = .ok (.string (strOfNums [hexd n])) w := by
  match n, h with
  | 0, _ => rfl
  | 1, _ => rfl
  | 2, _ => rfl
  | 3, _ => rfl
  | 4, _ => rfl
  | 5, _ => rfl
  | 6, _ => rfl
  | 7, _ => rfl
  | 8, _ => rfl
  | 9, _ => rfl
  | 10, _ => rfl
  | 11, _ => rfl
  | 12, _ => rfl
  | 13, _ => rfl
  | 14, _ => rfl
  | 15, _ => rfl
  | n + 16, h => exact absurd h (by omega)
theorem u8w_div (x : Int) (h : Nat) (h0 : 0 ≤ x) (h1 : x < 256) (e : (h : Int) = x / 16) : IntKind.u8.wrap (x.tdiv 16) = (h : Int) := by
  rw [Int.tdiv_eq_ediv_of_nonneg h0, ← e]; simp [IntKind.wrap, IntKind.bits, IntKind.signed]; omega
theorem u8w_rem (x : Int) (h : Nat) (h0 : 0 ≤ x) (_h1 : x < 256) (e : (h : Int) = x % 16) : x.tmod 16 = (h : Int) := by
  rw [Int.tmod_eq_emod_of_nonneg h0, ← e]
theorem u8w_suc (h : Nat) (h1 : h < 16) : IntKind.u8.wrap ((h : Int) + 1) = (h : Int) + 1 := by
  simp [IntKind.wrap, IntKind.bits, IntKind.signed]; omega
theorem flat_hex_len (d : List Int) : (d.flatMap hex2).length = 2 * d.length := by
  induction d with
  | nil => rfl
  | cons x d ih => rw [List.flatMap_cons, List.length_append, ih]; simp [hex2]; omega
def rtRel (w : World) (d : List Int) (kq : Nat) (v2 v3 : Value) (wr : World) : Prop := ∃ i : Nat, i + kq = 16 ∧ v3 = .int .i64 (i : Int) ∧ v2 = .string (strOfNums ((d.take i).flatMap hex2)) ∧ Aside (Below w.heap.size w wr)
set_option maxHeartbeats 8000000 in
set_option maxRecDepth 100000 in
theorem T.refToken (bs : List Int) (A : Option Addr) (c : Nat) (w : World) (hOf : Calls Tryd.prog 11 #[.slice A bs.length c] w fun e w' => ∃ v, e = .returned v ∧ Bytes w' w.heap.size v (digestL bs) ∧ Below w.heap.size w w') :
    Calls Tryd.prog 13 #[.slice A bs.length c] w fun e w' => e = .returned (.string (strOfNums (tokenL bs))) ∧ Below w.heap.size w w' := by
  have HOF := Aside.mk hOf
  clear hOf
  have hrange := Aside.mk (digestL_range bs)
  have hdn := Aside.mk (digestL_length bs)
  have htok : tokenL bs = ((digestL bs).take 16).flatMap hex2 := rfl
  have HTOK := Aside.mk htok
  clear htok
  generalize digestL bs = d at *
  go_enter Tryd.func13, Tryd.ntmps13
  go_wp2_with fail
  refine HOF.out.mono ?_
  rintro e w1 ⟨v1, rfl, hv1, hB1⟩
  obtain ⟨A1, c1, rfl, hc1, hS1, hA1⟩ := hv1.slice
  rw [hdn.out]
  rw [hdn.out] at hc1
  have HB1 := Aside.mk hB1
  have HS1 := Aside.mk hS1
  have HA1 := Aside.mk hA1
  clear hv1 hB1 hS1 hA1 HOF
  go_wp2
  go_loopg [4, 5] 16 (fun kq v4 v5 wr => rtRel w1 d kq v4 v5 wr)
  case atStart => exact ⟨0, rfl, rfl, rfl, ⟨Below.refl _ _⟩⟩
  case round =>
    obtain ⟨i, hi, rfl, rfl, hB⟩ := hrel
    have HI := Aside.mk hi
    by_cases hlt : i < 16
    · have cd := (HS1.out.below (fun a ha => (HA1.out a ha).2) hB.out) i _ (List.getElem?_eq_getElem (show i < d.length from by rw [hdn.out]; omega))
      obtain ⟨b1, o1, rfl, cd⟩ := cd
      obtain ⟨x, hx⟩ : ∃ x, x = d[i]'(show i < d.length from by rw [hdn.out]; omega) := ⟨_, rfl⟩
      rw [← hx] at cd
      have hxr := hrange.out x (by rw [hx]; exact List.getElem_mem _)
      have HX := Aside.mk (show x = d.getD i 0 from by rw [hx, List.getD_eq_getElem?_getD, List.getElem?_eq_getElem]; rfl)
      obtain ⟨hn, hhn⟩ : ∃ hn : Nat, (hn : Int) = x / 16 := ⟨(x / 16).toNat, by omega⟩
      obtain ⟨ln, hln⟩ : ∃ ln : Nat, (ln : Int) = x % 16 := ⟨(x % 16).toNat, by omega⟩
      have e1 : x / 16 = (hn : Int) := hhn.symm
      have e2 : x % 16 = (ln : Int) := hln.symm
      have HH := Aside.mk hhn
      have HL := Aside.mk hln
      have hlt' := Aside.mk hlt
      generalize hst : strOfNums ((d.take i).flatMap hex2) = st
      have HST := Aside.mk hst
      have h32 : (i : Int) < 32 := by omega
      have f1 := u8w_div x hn hxr.1 hxr.2 hhn
      have f2 := u8w_suc hn (by omega)
      have f3 := u8w_rem x ln hxr.1 hxr.2 hln
      have f4 := u8w_suc ln (by omega)
      have f5 := hex_slice wr.drew hn (by omega)
      have f6 := hex_slice wr.drew ln (by omega)
      obtain ⟨sh, hsh⟩ : ∃ sh, sh = strOfNums [hexd hn] := ⟨_, rfl⟩
      obtain ⟨sl, hsl⟩ : ∃ sl, sl = strOfNums [hexd ln] := ⟨_, rfl⟩
      rw [← hsh] at f5
      rw [← hsl] at f6
      have z1 : st.size = 2 * i := by rw [← hst, strOfNums_size, flat_hex_len, List.length_take]; have := hdn.out; omega
      have z2 : sh.size = 1 := by rw [hsh]; rfl
      have z3 : sl.size = 1 := by rw [hsl]; rfl
      have g1 : ¬ 9223372036854775807 < st.size + sh.size := by omega
      have g2 : ¬ 9223372036854775807 < (st ++ sh).size + sl.size := by rw [ByteArray.size_append]; omega
      have g3 : ¬ 9223372036854775807 < st.size + sh.size + sl.size := by omega
      have hfin := Aside.mk (show st ++ sh ++ sl = strOfNums ((d.take (i + 1)).flatMap hex2) from by
        rw [hex_step d i x (by have := hdn.out; omega) HX.out, ← hst, hsh, hsl, ← hhn, ← hln]
        simp only [strOfNums]
        ext1
        simp)
      clear z1 z2 z3
      have HSH := Aside.mk hsh
      clear hsh hsl
      clear hx hhn hln hi hst
      go_wp2
      refine still_lit (by kernel_rfl) (by kernel_rfl) ?_
      repeat still_step
      refine wpStill_nil ?_
      go_wp2
      go_roundg (gk - 1)
      case measure => have := HI.out; have := hlt'.out; omega
      case rel => exact ⟨i + 1, by have := HI.out; have := hlt'.out; omega, by go_num, by rw [← hfin.out], ⟨hB.out.drew⟩⟩
    · have hiq : i = 16 := by omega
      subst hiq
      clear hlt hi
      go_wp2
      go_ret
      exact ⟨by rw [HTOK.out]; rfl, HB1.out.trans (hB.out.mono HB1.out.size)⟩
end Go.Proofs.YtoccfgkblognfaaDoor
