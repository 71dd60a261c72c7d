/- The printed functions of the reference that the digest's own plain functions equal: turn, padded, schedule. Conditions: bytes from 0 to 255, lengths. -/
import Derived.Test.YtoccfgkblognfaaDoorDgE
import Derived.Test.YtoccfgkblognfaaDoorPAx2
namespace Go.Proofs.YtoccfgkblognfaaDoor
open Go.RowKit Go.Proofs.YtoccfgkblognfaaDoorW.PrintWords Go.Proofs.YtoccfgkblognfaaDoorW.PrintLast Go.Proofs.YtoccfgkblognfaaDoorW.PrintMore
theorem wrap64_id {x : Int} (h0 : -9223372036854775808 ≤ x) (h1 : x < 9223372036854775808) : wrap64 x = x := by unfold wrap64; omega
theorem bits_or_comm (k : IntKind) (x y : Int) : bits .or k x y = bits .or k y x := by
  simp only [bits, BitVec.or_comm]
theorem turn_eq (x : Int) (k : Nat) (h0 : 0 < k) (h1 : k < 32) : PA.racewayref03_turn.f x (k : Int) = some (rotl x (32 - k)) := by
  unfold PA.racewayref03_turn.f
  rw [if_pos (by omega), wrap64_id (by omega) (by omega), if_pos (by omega)]
  congr 1
  rw [bits_or_comm]
  unfold rotl shl shr
  have e1 : min (32 - (k : Int)).toNat IntKind.u32.bits = 32 - k := by simp only [IntKind.bits]; omega
  have e2 : min (k : Int).toNat IntKind.u32.bits = 32 - (32 - k) := by simp only [IntKind.bits]; omega
  rw [e1, e2, IntKind.wrap_u32]
theorem wraps_u32 (n : Int) (h₀ : 0 ≤ n) (h₁ : n < 2 ^ 32) : IntKind.u32.wrap n = n := by rw [IntKind.wrap_u32]; omega
theorem or_join (i : Nat) (x y : Int) (hx₀ : 0 ≤ x) (hx : x % 2 ^ i = 0) (hx₁ : x < 4294967296) (hy₀ : 0 ≤ y) (hy : y < 2 ^ i) (hy₁ : y < 4294967296) : bits .or .u32 x y = x + y :=
  bits_join .u32 32 (by decide) wraps_u32 i x y hx₀ hx (by simpa using hx₁) hy₀ hy (by simpa using hy₁)
theorem word4_sum (a b c d : Int) (ha : 0 ≤ a ∧ a < 256) (hb : 0 ≤ b ∧ b < 256) (hc : 0 ≤ c ∧ c < 256) (hd : 0 ≤ d ∧ d < 256) : word4 a b c d = a * 16777216 + b * 65536 + c * 256 + d := by
  unfold word4
  simp only [IntKind.wrap_u32]
  rw [show a % 4294967296 = a from by omega, show b % 4294967296 = b from by omega, show c % 4294967296 = c from by omega, show d % 4294967296 = d from by omega]
  rw [show a * 16777216 % 4294967296 = a * 16777216 from by omega, show b * 65536 % 4294967296 = b * 65536 from by omega, show c * 256 % 4294967296 = c * 256 from by omega]
  rw [or_join 24 (a * 16777216) (b * 65536) (by omega) (by omega) (by omega) (by omega) (by omega) (by omega)]
  rw [or_join 16 (a * 16777216 + b * 65536) (c * 256) (by omega) (by omega) (by omega) (by omega) (by omega) (by omega)]
  rw [or_join 8 (a * 16777216 + b * 65536 + c * 256) d (by omega) (by omega) (by omega) (by omega) (by omega) (by omega)]
/-- The size, as the reference writes it. -/
theorem size_loop (s : Int) (k : Nat) : ∀ (j : Nat) (xs : List Int), j ≤ 8 → xs.length + j < 1000000 → j < k →
    PA.racewayref03_padded.l1 k xs s ((j : Int) - 1) = some (xs ++ (List.range' (8 - j) j).map fun i => s / 2 ^ (56 - 8 * i) % 256) := by
  intro j
  induction j generalizing k with
  | zero =>
    intro xs _ _ hk
    obtain ⟨k, rfl⟩ : ∃ m, k = m + 1 := ⟨k - 1, by omega⟩
    simp only [PA.racewayref03_padded.l1]
    rw [if_neg (by omega)]
    simp
  | succ j ih =>
    intro xs hj hl hk
    obtain ⟨k, rfl⟩ : ∃ m, k = m + 1 := ⟨k - 1, by omega⟩
    simp only [PA.racewayref03_padded.l1]
    rw [show ((j + 1 : Nat) : Int) - 1 = (j : Int) from by omega, wrap64_id (x := 8 * (j : Int)) (by omega) (by omega), if_pos (by omega), if_pos (by omega), if_pos (by omega), wrap64_id (by omega) (by omega)]
    rw [ih k (xs ++ _) (by omega) (by simp; omega) (by omega)]
    congr 1
    rw [List.append_assoc]
    congr 1
    rw [show List.range' (8 - (j + 1)) (j + 1) = (8 - (j + 1)) :: List.range' (8 - j) j from by rw [List.range'_succ]; congr 2; omega]
    simp only [List.map_cons, List.singleton_append, List.cons.injEq, and_true]
    unfold shr
    rw [show min (8 * (j : Int)).toNat IntKind.u64.bits = 56 - 8 * (8 - (j + 1)) from by simp only [IntKind.bits]; omega]
theorem pad_loop (bs : List Int) (hb : bs.length ≤ 100000) : ∀ (z k : Nat) (xs : List Int), (xs.length + z) % 64 = 56 → z < 64 → xs.length + z ≤ 200000 → z + 9 < k →
    PA.racewayref03_padded.l0 k bs xs = some (xs ++ List.replicate z 0 ++ sizeB (8 * bs.length) 8) := by
  intro z
  induction z with
  | zero =>
    intro k xs h _ hl hk
    obtain ⟨k, rfl⟩ : ∃ m, k = m + 1 := ⟨k - 1, by omega⟩
    simp only [PA.racewayref03_padded.l0]
    rw [if_pos (by omega)]
    have e : IntKind.u64.wrap (IntKind.u64.wrap (bs.length : Int) * 8) = 8 * bs.length := by
      have e1 : IntKind.u64.wrap (bs.length : Int) = bs.length := by simp [IntKind.wrap, IntKind.bits, IntKind.signed]; omega
      rw [e1]; simp [IntKind.wrap, IntKind.bits, IntKind.signed]; omega
    rw [e]
    have := size_loop (8 * bs.length) k 8 xs (by omega) (by omega) (by omega)
    rw [show (((8 : Nat) : Int) - 1) = 7 from rfl] at this
    rw [this]
    simp [sizeB, List.range_eq_range']
  | succ z ih =>
    intro k xs h hz hl hk
    obtain ⟨k, rfl⟩ : ∃ m, k = m + 1 := ⟨k - 1, by omega⟩
    simp only [PA.racewayref03_padded.l0]
    rw [if_neg (by omega), if_pos (by omega), ih k (xs ++ [0]) (by simp; omega) (by omega) (by simp; omega) (by omega)]
    simp [List.replicate_succ]
theorem padded_eq (bs : List Int) (hb : bs.length ≤ 100000) (k : Nat) (hk : 100 < k) : PA.racewayref03_padded.f k bs = some (padL bs) := by
  unfold PA.racewayref03_padded.f
  simp only [Option.bind_some, List.nil_append, List.length_nil]
  rw [if_pos (by omega), if_pos (by omega)]
  rw [pad_loop bs hb (zerosN bs.length) k (bs ++ [128]) (by unfold zerosN; rw [List.length_append, List.length_singleton]; omega) (by unfold zerosN; omega) (by unfold zerosN; rw [List.length_append, List.length_singleton]; omega) (by unfold zerosN; omega)]
  rfl
theorem rd_eq (l : List Int) (x : Int) (k : Nat) (h : x = (k : Int)) : rd l x = l.getD k 0 := by subst h; simp [rd]
theorem getD_range {l : List Int} (h : ∀ x ∈ l, 0 ≤ x ∧ x < 256) (k : Nat) : 0 ≤ l.getD k 0 ∧ l.getD k 0 < 256 := by
  rw [List.getD_eq_getElem?_getD]
  cases hk : l[k]? with
  | none => simp
  | some y => exact h y (List.mem_of_getElem? hk)
theorem sched0 (bl : List Int) (hl : bl.length = 64) (hr : ∀ x ∈ bl, 0 ≤ x ∧ x < 256) : ∀ (d i k : Nat), i + d = 16 → d < k → PA.racewayref03_schedule.l0 k bl (schedN bl i) i = PA.racewayref03_schedule.l1 (k - d - 1) (schedN bl 16) 16 := by
  intro d
  induction d with
  | zero =>
    intro i k hi hk
    obtain ⟨k, rfl⟩ : ∃ m, k = m + 1 := ⟨k - 1, by omega⟩
    obtain rfl : i = 16 := by omega
    simp only [PA.racewayref03_schedule.l0]
    rw [if_neg (by omega)]
    rfl
  | succ d ih =>
    intro i k hi hk
    obtain ⟨k, rfl⟩ : ∃ m, k = m + 1 := ⟨k - 1, by omega⟩
    have w0 : wrap64 (4 * (i : Int)) = 4 * i := wrap64_id (by omega) (by omega)
    have w1 : wrap64 (4 * (i : Int) + 1) = 4 * i + 1 := wrap64_id (by omega) (by omega)
    have w2 : wrap64 (4 * (i : Int) + 2) = 4 * i + 2 := wrap64_id (by omega) (by omega)
    have w3 : wrap64 (4 * (i : Int) + 3) = 4 * i + 3 := wrap64_id (by omega) (by omega)
    have w4 : wrap64 ((i : Int) + 1) = ((i + 1 : Nat) : Int) := by rw [wrap64_id (by omega) (by omega)]; simp
    simp only [PA.racewayref03_schedule.l0, w0, w1, w2, w3, w4]
    clear w0 w1 w2 w3 w4
    rw [if_pos (by omega), if_pos (by omega), if_pos (by omega), if_pos (by omega), if_pos (by omega), if_pos (by omega), if_pos (by omega), if_pos (by omega), if_pos (by omega), if_pos (by rw [schedN_length]; omega)]
    rw [rd_eq bl _ (4 * i) (by omega), rd_eq bl _ (4 * i + 1) (by omega), rd_eq bl _ (4 * i + 2) (by omega), rd_eq bl _ (4 * i + 3) (by omega)]
    have r0 := getD_range hr (4 * i)
    have r1 := getD_range hr (4 * i + 1)
    have r2 := getD_range hr (4 * i + 2)
    have r3 := getD_range hr (4 * i + 3)
    have hs : schedN bl (i + 1) = schedN bl i ++ [word4 (bl.getD (4 * i) 0) (bl.getD (4 * i + 1) 0) (bl.getD (4 * i + 2) 0) (bl.getD (4 * i + 3) 0)] := by
      simp only [schedN, nextW]; rw [if_pos (by omega)]
    rw [word4_sum _ _ _ _ r0 r1 r2 r3] at hs
    generalize bl.getD (4 * i) 0 = b0 at *
    generalize bl.getD (4 * i + 1) 0 = b1 at *
    generalize bl.getD (4 * i + 2) 0 = b2 at *
    generalize bl.getD (4 * i + 3) 0 = b3 at *
    rw [show ((((b0 % 4294967296 * 16777216 % 4294967296 + b1 % 4294967296 * 65536 % 4294967296) % 4294967296 + b2 % 4294967296 * 256 % 4294967296) % 4294967296 + b3 % 4294967296) % 4294967296) = b0 * 16777216 + b1 * 65536 + b2 * 256 + b3 from by omega]
    rw [← hs, ih (i + 1) k (by omega) (by omega)]
    congr 1
    omega
theorem sched1 (bl : List Int) : ∀ (d i k : Nat), i + d = 64 → 16 ≤ i → d < k → PA.racewayref03_schedule.l1 k (schedN bl i) i = some (schedN bl 64) := by
  intro d
  induction d with
  | zero =>
    intro i k hi _ hk
    obtain ⟨k, rfl⟩ : ∃ m, k = m + 1 := ⟨k - 1, by omega⟩
    obtain rfl : i = 64 := by omega
    simp only [PA.racewayref03_schedule.l1]
    rw [if_neg (by omega)]
  | succ d ih =>
    intro i k hi h16 hk
    obtain ⟨k, rfl⟩ : ∃ m, k = m + 1 := ⟨k - 1, by omega⟩
    have w0 : wrap64 ((i : Int) - 15) = ((i - 15 : Nat) : Int) := by rw [wrap64_id (by omega) (by omega)]; omega
    have w1 : wrap64 ((i : Int) - 2) = ((i - 2 : Nat) : Int) := by rw [wrap64_id (by omega) (by omega)]; omega
    have w2 : wrap64 ((i : Int) - 16) = ((i - 16 : Nat) : Int) := by rw [wrap64_id (by omega) (by omega)]; omega
    have w3 : wrap64 ((i : Int) - 7) = ((i - 7 : Nat) : Int) := by rw [wrap64_id (by omega) (by omega)]; omega
    have w4 : wrap64 ((i : Int) + 1) = ((i + 1 : Nat) : Int) := by rw [wrap64_id (by omega) (by omega)]; simp
    have t7 := fun x => turn_eq x 7 (by decide) (by decide)
    have t18 := fun x => turn_eq x 18 (by decide) (by decide)
    have t17 := fun x => turn_eq x 17 (by decide) (by decide)
    have t19 := fun x => turn_eq x 19 (by decide) (by decide)
    simp only [Int.cast_ofNat_Int] at t7 t18 t17 t19
    have hL := schedN_length bl i
    simp only [PA.racewayref03_schedule.l1, w0, w1, w2, w3, w4, t7, t18, t17, t19, Option.bind_some, hL]
    clear w0 w1 w2 w3 w4 t7 t18 t17 t19
    rw [if_pos (by omega), if_pos (by omega), if_pos (by omega), if_pos (by omega), if_pos (by omega), if_pos (by omega), if_pos (by omega), if_pos (by omega), if_pos (by omega), if_pos (by omega)]
    rw [rd_eq _ _ (i - 15) rfl, rd_eq _ _ (i - 2) rfl, rd_eq _ _ (i - 16) rfl, rd_eq _ _ (i - 7) rfl]
    have hs : schedN bl (i + 1) = schedN bl i ++ [nextW bl (schedN bl i) i] := rfl
    unfold nextW at hs
    rw [if_neg (by omega)] at hs
    generalize (schedN bl i).getD (i - 15) 0 = xx at *
    generalize (schedN bl i).getD (i - 2) 0 = xy at *
    generalize (schedN bl i).getD (i - 16) 0 = xp at *
    generalize (schedN bl i).getD (i - 7) 0 = xq at *
    rw [show (32 - 7 : Nat) = 25 from rfl, show (32 - 18 : Nat) = 14 from rfl, show (32 - 17 : Nat) = 15 from rfl, show (32 - 19 : Nat) = 13 from rfl]
    generalize bits .xor .u32 (bits .xor .u32 (rotl xx 25) (rotl xx 14)) (xx / 8) = sa at *
    generalize bits .xor .u32 (bits .xor .u32 (rotl xy 15) (rotl xy 13)) (xy / 1024) = sb at *
    rw [show (((xp + sa) % 4294967296 + xq) % 4294967296 + sb) % 4294967296 = (xp + xq + sa + sb) % 4294967296 from by omega]
    rw [← hs, ih (i + 1) k (by omega) (by omega) (by omega)]
theorem schedule_eq (bl : List Int) (hl : bl.length = 64) (hr : ∀ x ∈ bl, 0 ≤ x ∧ x < 256) (k : Nat) (hk : 100 < k) : PA.racewayref03_schedule.f k bl = some (schedN bl 64) := by
  have h := sched0 bl hl hr 16 0 k rfl (by omega)
  unfold PA.racewayref03_schedule.f
  rw [show (0 : Int) = ((0 : Nat) : Int) from rfl, show ([] : List Int) = schedN bl 0 from rfl, h]
  exact sched1 bl 48 16 (k - 16 - 1) rfl (by omega) (by omega)
end Go.Proofs.YtoccfgkblognfaaDoor
