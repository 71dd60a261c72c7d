/- Plain laws: the reference's padding, turn, round and fingerprint are the same lists as the program's. Conditions: bytes from 0 to 255, lengths. -/
import Derived.Test.YticpbhpehoolfaaDoorFgJ
import Derived.Test.YticpbhpehoolfaaDoorPAxd
namespace Go.Proofs.YticpbhpehoolfaaDoor
open Go.RowKit Go.Proofs.YticpbhpehoolfaaDoor.PA Go.Proofs.YticpbhpehoolfaaDoorW.PrintWords Go.Proofs.YticpbhpehoolfaaDoorW.PrintLast Go.Proofs.YticpbhpehoolfaaDoorW.PrintMore
theorem wrap64_id {x : Int} (h0 : -9223372036854775808 ≤ x) (h1 : x < 9223372036854775808) : wrap64 x = x := by unfold wrap64; omega
theorem turn_eq (x : Int) (k : Nat) (h0 : 0 < k) (h1 : k < 32) : racewayref23_turn.f x (k : Int) = some (rotl x k) := by
  unfold racewayref23_turn.f
  rw [if_pos (by omega), wrap64_id (by omega) (by omega), if_pos (by omega)]
  congr 1
  unfold rotl shl shr
  have e1 : min (32 - (k : Int)).toNat IntKind.u32.bits = 32 - k := by simp only [IntKind.bits]; omega
  have e2 : min (k : Int).toNat IntKind.u32.bits = k := by simp only [IntKind.bits]; omega
  rw [e1, e2, IntKind.wrap_u32]
theorem wraps_u32 (n : Int) (h₀ : 0 ≤ n) (h₁ : n < 2 ^ 32) : IntKind.u32.wrap n = n := by rw [IntKind.wrap_u32]; omega
theorem bits_or_comm (k : IntKind) (x y : Int) : bits .or k x y = bits .or k y x := by
  simp only [bits, BitVec.or_comm]
theorem or_join (i : Nat) (x y : Int) (hx₀ : 0 ≤ x) (hx : x % 2 ^ i = 0) (hx₁ : x < 4294967296) (hy₀ : 0 ≤ y) (hy : y < 2 ^ i) (hy₁ : y < 4294967296) : bits .or .u32 x y = x + y :=
  bits_join .u32 32 (by decide) wraps_u32 i x y hx₀ hx (by simpa using hx₁) hy₀ hy (by simpa using hy₁)
theorem or_join' (i : Nat) (x y : Int) (hx₀ : 0 ≤ x) (hx : x % 2 ^ i = 0) (hx₁ : x < 4294967296) (hy₀ : 0 ≤ y) (hy : y < 2 ^ i) (hy₁ : y < 4294967296) : bits .or .u32 y x = y + x := by
  rw [bits_or_comm, or_join i x y hx₀ hx hx₁ hy₀ hy hy₁, Int.add_comm]
theorem word4_sum (a b c d : Int) (ha : 0 ≤ a ∧ a < 256) (hb : 0 ≤ b ∧ b < 256) (hc : 0 ≤ c ∧ c < 256) (hd : 0 ≤ d ∧ d < 256) : word4 a b c d = a + b * 256 + c * 65536 + d * 16777216 := by
  unfold word4
  simp only [IntKind.wrap_u32]
  rw [show a % 4294967296 = a from by omega, show b % 4294967296 = b from by omega, show c % 4294967296 = c from by omega, show d % 4294967296 = d from by omega]
  rw [show b * 256 % 4294967296 = b * 256 from by omega, show c * 65536 % 4294967296 = c * 65536 from by omega, show d * 16777216 % 4294967296 = d * 16777216 from by omega]
  rw [or_join' 8 (b * 256) a (by omega) (by omega) (by omega) (by omega) (by omega) (by omega)]
  rw [or_join' 16 (c * 65536) (a + b * 256) (by omega) (by omega) (by omega) (by omega) (by omega) (by omega)]
  rw [or_join' 24 (d * 16777216) (a + b * 256 + c * 65536) (by omega) (by omega) (by omega) (by omega) (by omega) (by omega)]
theorem xor_all (x : Int) : bits .xor .u32 x 4294967295 = bits .xor .u32 IntKind.u32.max x := by
  rw [show IntKind.u32.max = 4294967295 from by decide]
  simp only [bits, BitVec.xor_comm]
theorem getD_range {l : List Int} (h : ∀ x ∈ l, 0 ≤ x ∧ x < 256) (k : Nat) : 0 ≤ l.getD k 0 ∧ l.getD k 0 < 256 := by
  rw [List.getD_eq_getElem?_getD]
  cases hk : l[k]? with
  | none => simp
  | some y => exact h y (List.mem_of_getElem? hk)
theorem rd_eq (l : List Int) (x : Int) (k : Nat) (h : x = (k : Int)) : rd l x = l.getD k 0 := by subst h; simp [rd]
/-! ### padded -/
/-- The size, as the reference writes it. -/
theorem size_loop : ∀ (d k j : Nat) (s : Int) (xs : List Int), j + d = 8 → d < k → 0 ≤ s → s < 2 ^ 64 → xs.length + d < 1000000 →
    racewayref23_padded.l1 k xs s (j : Int) = some (xs ++ (List.range d).map fun i => s / 2 ^ (8 * i) % 256) := by
  intro d
  induction d with
  | zero =>
    intro k j s xs hj hk _ _ _
    obtain ⟨k, rfl⟩ : ∃ m, k = m + 1 := ⟨k - 1, by omega⟩
    simp only [racewayref23_padded.l1]
    rw [if_neg (by omega)]
    simp
  | succ d ih =>
    intro k j s xs hj hk h0 h1 hl
    obtain ⟨k, rfl⟩ : ∃ m, k = m + 1 := ⟨k - 1, by omega⟩
    simp only [racewayref23_padded.l1]
    have e1 : IntKind.u64.wrap (Int.tdiv s 256) = s / 256 := by
      rw [Int.tdiv_eq_ediv_of_nonneg h0]; simp [IntKind.wrap, IntKind.bits, IntKind.signed]; omega
    have e2 : wrap64 ((j : Int) + 1) = ((j + 1 : Nat) : Int) := by rw [wrap64_id (by omega) (by omega)]; simp
    rw [e1, e2]
    clear e1 e2
    rw [if_pos (by omega), if_pos (by omega), ih k (j + 1) (s / 256) (xs ++ [s % 256]) (by omega) (by omega) (by omega) (by omega) (by simp; omega)]
    congr 1
    rw [List.append_assoc]
    congr 1
    rw [List.range_succ_eq_map, List.map_cons, List.map_map]
    simp only [List.singleton_append, Nat.mul_zero, Int.pow_zero, Int.ediv_one, List.cons.injEq, true_and]
    refine List.map_congr_left fun i _ => ?_
    simp only [Function.comp]
    rw [Int.ediv_ediv_of_nonneg (by decide), show (256 : Int) * 2 ^ (8 * i) = 2 ^ (8 * (i + 1)) from by rw [show 8 * (i + 1) = 8 + 8 * i from by omega, Int.pow_add]; rfl]
theorem pad_loop (bs : List Int) (hb : bs.length ≤ 100000) : ∀ (z k : Nat) (xs : List Int), (xs.length + z) % 64 = 56 → z < 64 → xs.length + z ≤ 200000 → z + 10 < k →
    racewayref23_padded.l0 k bs xs = some (xs ++ List.replicate z 0 ++ sizeB (8 * bs.length) 8) := by
  intro z
  induction z with
  | zero =>
    intro k xs h _ hl hk
    obtain ⟨k, rfl⟩ : ∃ m, k = m + 1 := ⟨k - 1, by omega⟩
    simp only [racewayref23_padded.l0]
    rw [if_pos (by omega)]
    have e : IntKind.u64.wrap (IntKind.u64.wrap (bs.length : Int) * 8) = 8 * bs.length := by
      have e1 : IntKind.u64.wrap (bs.length : Int) = bs.length := by simp [IntKind.wrap, IntKind.bits, IntKind.signed]; omega
      rw [e1]; simp [IntKind.wrap, IntKind.bits, IntKind.signed]; omega
    rw [e]
    clear e
    have := size_loop 8 k 0 (8 * bs.length) xs (by omega) (by omega) (by omega) (by omega) (by omega)
    rw [show (((0 : Nat) : Int)) = 0 from rfl] at this
    rw [this]
    simp [sizeB]
  | succ z ih =>
    intro k xs h hz hl hk
    obtain ⟨k, rfl⟩ : ∃ m, k = m + 1 := ⟨k - 1, by omega⟩
    simp only [racewayref23_padded.l0]
    rw [if_neg (by omega), if_pos (by omega), ih k (xs ++ [0]) (by simp; omega) (by omega) (by simp; omega) (by omega)]
    simp [List.replicate_succ]
theorem padded_eq (bs : List Int) (hb : bs.length ≤ 100000) (k : Nat) (hk : 100 < k) : racewayref23_padded.f k bs = some (padL bs) := by
  unfold racewayref23_padded.f
  simp only [Option.bind_some, List.nil_append, List.length_nil]
  rw [if_pos (by omega), if_pos (by omega)]
  rw [pad_loop bs hb (zerosN bs.length) k (bs ++ [128]) (by unfold zerosN; rw [List.length_append, List.length_singleton]; omega) (by unfold zerosN; omega) (by unfold zerosN; rw [List.length_append, List.length_singleton]; omega) (by unfold zerosN; omega)]
  rfl
theorem padL_length (bs : List Int) : (padL bs).length = 64 * ((bs.length + 72) / 64) := by
  unfold padL sizeB zerosN
  simp
  omega
theorem padL_byts {bs : List Int} (hr : ∀ x ∈ bs, 0 ≤ x ∧ x < 256) : ∀ x ∈ padL bs, 0 ≤ x ∧ x < 256 := fun x hx => by
  unfold padL sizeB at hx
  simp only [List.mem_append, List.mem_singleton, List.mem_replicate, List.mem_map] at hx
  rcases hx with ((hx | rfl) | ⟨_, rfl⟩) | ⟨j, _, rfl⟩
  · exact hr x hx
  · omega
  · omega
  · omega
/-! ### the rounds -/
theorem round_eq (a b c d x : Int) (t : Nat) (h0 : 0 < t) (h1 : t < 32) : racewayref23_round.f [a, b, c, d] x (t : Int) = some [d, (b + rotl ((a + x) % 4294967296) t) % 4294967296, b, c] := by
  unfold racewayref23_round.f
  rw [if_pos (by simp), if_pos (by simp), if_pos (by simp), turn_eq _ t h0 h1, Option.bind_some, if_pos (by simp)]
  rfl
theorem turnN_pos (i : Nat) (h : i < 64) : 0 < turnN i ∧ turnN i < 32 := (turnN_ok i h).2
theorem toL_step (i : Nat) (k x a b c d : Int) : toL (stepV i k x (a, b, c, d)) = [d, (b + rotl ((a + ((stepF i b c d + x) % 4294967296 + k) % 4294967296) % 4294967296) (turnN i)) % 4294967296, b, c] := by
  unfold toL stepV
  rw [show ((((stepF i b c d + a) % 4294967296 + k) % 4294967296 + x) % 4294967296) = (a + ((stepF i b c d + x) % 4294967296 + k) % 4294967296) % 4294967296 from by omega]
theorem tn0 : ∀ i : Nat, i < 16 → rd [7, 12, 17, 22] (Int.tmod (i : Int) 4) = ((turnN i : Nat) : Int) := by decide
theorem tn1 : ∀ i : Nat, i < 16 → rd [5, 9, 14, 20] (Int.tmod (i : Int) 4) = ((turnN (16 + i) : Nat) : Int) := by decide
theorem tn2 : ∀ i : Nat, i < 16 → rd [4, 11, 16, 23] (Int.tmod (i : Int) 4) = ((turnN (32 + i) : Nat) : Int) := by decide
theorem tn3 : ∀ i : Nat, i < 16 → rd [6, 10, 15, 21] (Int.tmod (i : Int) 4) = ((turnN (48 + i) : Nat) : Int) := by decide
theorem tm4 (i : Nat) : 0 ≤ Int.tmod (i : Int) 4 ∧ Int.tmod (i : Int) 4 < 4 := by
  rw [Int.tmod_eq_emod_of_nonneg (by omega)]; omega
theorem rd4 (a b c d : Int) : rd [a, b, c, d] 0 = a ∧ rd [a, b, c, d] 1 = b ∧ rd [a, b, c, d] 2 = c ∧ rd [a, b, c, d] 3 = d := ⟨rfl, rfl, rfl, rfl⟩
theorem w_succ (i : Nat) (hi : i < 16) : wrap64 ((i : Int) + 1) = ((i + 1 : Nat) : Int) := by rw [wrap64_id (by omega) (by omega)]; simp
theorem w_add (c i : Nat) (hi : i < 16) (hc : c < 64) : wrap64 ((c : Int) + (i : Int)) = ((c + i : Nat) : Int) := by rw [wrap64_id (by omega) (by omega)]; simp
theorem g_1 (i : Nat) (hi : i < 16) : stepG (16 + i) = (5 * i + 1) % 16 := by unfold stepG; rw [if_neg (by omega), if_pos (by omega)]; omega
theorem g_2 (i : Nat) (hi : i < 16) : stepG (32 + i) = (3 * i + 5) % 16 := by unfold stepG; rw [if_neg (by omega), if_neg (by omega), if_pos (by omega)]; omega
theorem g_3 (i : Nat) (_ : i < 16) : stepG (48 + i) = 7 * i % 16 := by unfold stepG; rw [if_neg (by omega), if_neg (by omega), if_neg (by omega)]; omega
theorem gi_1 (i : Nat) (hi : i < 16) : Int.tmod (wrap64 (1 + wrap64 (5 * (i : Int)))) 16 = (((5 * i + 1) % 16 : Nat) : Int) := by
  rw [wrap64_id (x := 5 * (i : Int)) (by omega) (by omega), wrap64_id (by omega) (by omega), Int.tmod_eq_emod_of_nonneg (by omega)]; omega
theorem gi_2 (i : Nat) (hi : i < 16) : Int.tmod (wrap64 (5 + wrap64 (3 * (i : Int)))) 16 = (((3 * i + 5) % 16 : Nat) : Int) := by
  rw [wrap64_id (x := 3 * (i : Int)) (by omega) (by omega), wrap64_id (by omega) (by omega), Int.tmod_eq_emod_of_nonneg (by omega)]; omega
theorem gi_3 (i : Nat) (hi : i < 16) : Int.tmod (wrap64 (7 * (i : Int))) 16 = ((7 * i % 16 : Nat) : Int) := by
  rw [wrap64_id (x := 7 * (i : Int)) (by omega) (by omega), Int.tmod_eq_emod_of_nonneg (by omega)]; omega
theorem l2_step (k i : Nat) (hi : i < 16) (all h ks m : List Int) (at_ : Int) (hm : m.length = 16) (hk : ks.length = 64) (a b c d : Int) :
    racewayref23_Of.l2 (k + 1) all h ks at_ m [a, b, c, d] (i : Int) = racewayref23_Of.l2 k all h ks at_ m (toL (stepV i (ks.getD i 0) (m.getD (stepG i) 0) (a, b, c, d))) ((i + 1 : Nat) : Int) := by
  have hf : stepF i b c d = bits .or .u32 (bits .and .u32 b c) (bits .and .u32 (bits .xor .u32 b 4294967295) d) := by unfold stepF; rw [if_pos hi, xor_all]
  obtain ⟨t1, t2⟩ := tm4 i
  obtain ⟨p1, p2⟩ := turnN_pos i (by omega)
  obtain ⟨r0, r1, r2, r3⟩ := rd4 a b c d
  have hw := w_succ i hi
  have hg : stepG i = i := by unfold stepG; rw [if_pos hi]
  rw [toL_step, hf, hg]
  simp only [racewayref23_Of.l2, r1, r2, r3, hw, Option.bind_some]
  clear hw hf hg
  rw [if_pos (by omega), if_pos (by simp), if_pos (by simp), if_pos (by simp), if_pos (by omega), if_pos (by omega), if_pos (by omega), if_pos t1, if_pos (by simpa using t2), tn0 i hi, round_eq _ _ _ _ _ _ p1 p2, Option.bind_some, rd_eq m _ i rfl, rd_eq ks _ i rfl]
theorem l3_step (k i : Nat) (hi : i < 16) (all h ks m : List Int) (at_ : Int) (hm : m.length = 16) (hk : ks.length = 64) (a b c d : Int) :
    racewayref23_Of.l3 (k + 1) all h ks at_ m [a, b, c, d] (i : Int) = racewayref23_Of.l3 k all h ks at_ m (toL (stepV (16 + i) (ks.getD (16 + i) 0) (m.getD (stepG (16 + i)) 0) (a, b, c, d))) ((i + 1 : Nat) : Int) := by
  have hf : stepF (16 + i) b c d = bits .or .u32 (bits .and .u32 b d) (bits .and .u32 c (bits .xor .u32 d 4294967295)) := by
    unfold stepF; rw [if_neg (by omega), if_pos (by omega), xor_all]; simp only [bits, BitVec.and_comm]
  obtain ⟨t1, t2⟩ := tm4 i
  obtain ⟨p1, p2⟩ := turnN_pos (16 + i) (by omega)
  obtain ⟨r0, r1, r2, r3⟩ := rd4 a b c d
  have hw := w_succ i hi
  have hg := g_1 i hi
  have hgi := gi_1 i hi
  have h16 : wrap64 (16 + (i : Int)) = ((16 + i : Nat) : Int) := w_add 16 i hi (by decide)
  rw [toL_step, hf, hg]
  simp only [racewayref23_Of.l3, r1, r2, r3, hgi, h16, hw, Option.bind_some]
  clear hw hgi h16 hf hg
  rw [if_pos (by omega), if_pos (by simp), if_pos (by simp), if_pos (by simp), if_pos (by omega), if_pos (by omega), if_pos (by omega), if_pos (by omega), if_pos t1, if_pos (by simpa using t2), tn1 i hi, round_eq _ _ _ _ _ _ p1 p2, Option.bind_some, rd_eq m _ _ rfl, rd_eq ks _ _ rfl]
theorem l4_step (k i : Nat) (hi : i < 16) (all h ks m : List Int) (at_ : Int) (hm : m.length = 16) (hk : ks.length = 64) (a b c d : Int) :
    racewayref23_Of.l4 (k + 1) all h ks at_ m [a, b, c, d] (i : Int) = racewayref23_Of.l4 k all h ks at_ m (toL (stepV (32 + i) (ks.getD (32 + i) 0) (m.getD (stepG (32 + i)) 0) (a, b, c, d))) ((i + 1 : Nat) : Int) := by
  have hf : stepF (32 + i) b c d = bits .xor .u32 (bits .xor .u32 b c) d := by
    unfold stepF; rw [if_neg (by omega), if_neg (by omega), if_pos (by omega)]
  obtain ⟨t1, t2⟩ := tm4 i
  obtain ⟨p1, p2⟩ := turnN_pos (32 + i) (by omega)
  obtain ⟨r0, r1, r2, r3⟩ := rd4 a b c d
  have hw := w_succ i hi
  have hg := g_2 i hi
  have hgi := gi_2 i hi
  have h16 : wrap64 (32 + (i : Int)) = ((32 + i : Nat) : Int) := w_add 32 i hi (by decide)
  rw [toL_step, hf, hg]
  simp only [racewayref23_Of.l4, r1, r2, r3, hgi, h16, hw, Option.bind_some]
  clear hw hgi h16 hf hg
  rw [if_pos (by omega), if_pos (by simp), if_pos (by simp), if_pos (by simp), if_pos (by omega), if_pos (by omega), if_pos (by omega), if_pos (by omega), if_pos t1, if_pos (by simpa using t2), tn2 i hi, round_eq _ _ _ _ _ _ p1 p2, Option.bind_some, rd_eq m _ _ rfl, rd_eq ks _ _ rfl]
theorem l5_step (k i : Nat) (hi : i < 16) (all h ks m : List Int) (at_ : Int) (hm : m.length = 16) (hk : ks.length = 64) (a b c d : Int) :
    racewayref23_Of.l5 (k + 1) all h ks at_ m [a, b, c, d] (i : Int) = racewayref23_Of.l5 k all h ks at_ m (toL (stepV (48 + i) (ks.getD (48 + i) 0) (m.getD (stepG (48 + i)) 0) (a, b, c, d))) ((i + 1 : Nat) : Int) := by
  have hf : stepF (48 + i) b c d = bits .xor .u32 c (bits .or .u32 b (bits .xor .u32 d 4294967295)) := by
    unfold stepF; rw [if_neg (by omega), if_neg (by omega), if_neg (by omega), xor_all]
  obtain ⟨t1, t2⟩ := tm4 i
  obtain ⟨p1, p2⟩ := turnN_pos (48 + i) (by omega)
  obtain ⟨r0, r1, r2, r3⟩ := rd4 a b c d
  have hw := w_succ i hi
  have hg := g_3 i hi
  have hgi := gi_3 i hi
  have h16 : wrap64 (48 + (i : Int)) = ((48 + i : Nat) : Int) := w_add 48 i hi (by decide)
  rw [toL_step, hf, hg]
  simp only [racewayref23_Of.l5, r1, r2, r3, hgi, h16, hw, Option.bind_some]
  clear hw hgi h16 hf hg
  rw [if_pos (by omega), if_pos (by simp), if_pos (by simp), if_pos (by simp), if_pos (by omega), if_pos (by omega), if_pos (by omega), if_pos (by omega), if_pos t1, if_pos (by simpa using t2), tn3 i hi, round_eq _ _ _ _ _ _ p1 p2, Option.bind_some, rd_eq m _ _ rfl, rd_eq ks _ _ rfl]
theorem l2_loop (all h m bl : List Int) (at_ : Int) (v : Int × Int × Int × Int) (hm : m = mN bl 16) (r : List Int) (hE : Ev (fun k => racewayref23_Of.l3 k all h sinesL at_ m (toL (roundN bl v 16)) 0) r) :
    ∀ d i : Nat, i + d = 16 → Ev (fun k => racewayref23_Of.l2 k all h sinesL at_ m (toL (roundN bl v i)) (i : Int)) r := by
  intro d
  induction d with
  | zero =>
    intro i hi
    obtain rfl : i = 16 := by omega
    refine Ev.step (fun k => ?_) hE
    rw [racewayref23_Of.l2, if_neg (by omega)]
  | succ d ih =>
    intro i hi
    refine Ev.step (fun k => ?_) (ih (i + 1) (by omega))
    have e : roundN bl v (i + 1) = stepV i (sinesL.getD i 0) (m.getD (stepG i) 0) (roundN bl v i) := by rw [hm]; rfl
    rw [e]
    obtain ⟨a, b, c, d2⟩ := roundN bl v i
    exact l2_step k i (by omega) all h sinesL m at_ (by rw [hm, mN_length]) rfl a b c d2
theorem l3_loop (all h m bl : List Int) (at_ : Int) (v : Int × Int × Int × Int) (hm : m = mN bl 16) (r : List Int) (hE : Ev (fun k => racewayref23_Of.l4 k all h sinesL at_ m (toL (roundN bl v 32)) 0) r) :
    ∀ d i : Nat, i + d = 16 → Ev (fun k => racewayref23_Of.l3 k all h sinesL at_ m (toL (roundN bl v (16 + i))) (i : Int)) r := by
  intro d
  induction d with
  | zero =>
    intro i hi
    obtain rfl : i = 16 := by omega
    refine Ev.step (fun k => ?_) hE
    rw [racewayref23_Of.l3, if_neg (by omega)]
  | succ d ih =>
    intro i hi
    refine Ev.step (fun k => ?_) (ih (i + 1) (by omega))
    have e : roundN bl v (16 + (i + 1)) = stepV (16 + i) (sinesL.getD (16 + i) 0) (m.getD (stepG (16 + i)) 0) (roundN bl v (16 + i)) := by rw [hm]; rfl
    rw [e]
    obtain ⟨a, b, c, d2⟩ := roundN bl v (16 + i)
    exact l3_step k i (by omega) all h sinesL m at_ (by rw [hm, mN_length]) rfl a b c d2
theorem l4_loop (all h m bl : List Int) (at_ : Int) (v : Int × Int × Int × Int) (hm : m = mN bl 16) (r : List Int) (hE : Ev (fun k => racewayref23_Of.l5 k all h sinesL at_ m (toL (roundN bl v 48)) 0) r) :
    ∀ d i : Nat, i + d = 16 → Ev (fun k => racewayref23_Of.l4 k all h sinesL at_ m (toL (roundN bl v (32 + i))) (i : Int)) r := by
  intro d
  induction d with
  | zero =>
    intro i hi
    obtain rfl : i = 16 := by omega
    refine Ev.step (fun k => ?_) hE
    rw [racewayref23_Of.l4, if_neg (by omega)]
  | succ d ih =>
    intro i hi
    refine Ev.step (fun k => ?_) (ih (i + 1) (by omega))
    have e : roundN bl v (32 + (i + 1)) = stepV (32 + i) (sinesL.getD (32 + i) 0) (m.getD (stepG (32 + i)) 0) (roundN bl v (32 + i)) := by rw [hm]; rfl
    rw [e]
    obtain ⟨a, b, c, d2⟩ := roundN bl v (32 + i)
    exact l4_step k i (by omega) all h sinesL m at_ (by rw [hm, mN_length]) rfl a b c d2
theorem l5_loop (all h m bl : List Int) (at_ : Int) (v : Int × Int × Int × Int) (hm : m = mN bl 16) (r : List Int) (hE : Ev (fun k => racewayref23_Of.l6 k all h sinesL at_ (toL (roundN bl v 64)) 0) r) :
    ∀ d i : Nat, i + d = 16 → Ev (fun k => racewayref23_Of.l5 k all h sinesL at_ m (toL (roundN bl v (48 + i))) (i : Int)) r := by
  intro d
  induction d with
  | zero =>
    intro i hi
    obtain rfl : i = 16 := by omega
    refine Ev.step (fun k => ?_) hE
    rw [racewayref23_Of.l5, if_neg (by omega)]
  | succ d ih =>
    intro i hi
    refine Ev.step (fun k => ?_) (ih (i + 1) (by omega))
    have e : roundN bl v (48 + (i + 1)) = stepV (48 + i) (sinesL.getD (48 + i) 0) (m.getD (stepG (48 + i)) 0) (roundN bl v (48 + i)) := by rw [hm]; rfl
    rw [e]
    obtain ⟨a, b, c, d2⟩ := roundN bl v (48 + i)
    exact l5_step k i (by omega) all h sinesL m at_ (by rw [hm, mN_length]) rfl a b c d2
theorem w1 : wrap64 (0 + 1) = 1 ∧ wrap64 (1 + 1) = 2 ∧ wrap64 (2 + 1) = 3 ∧ wrap64 (3 + 1) = 4 := by refine ⟨?_, ?_, ?_, ?_⟩ <;> (unfold wrap64; decide)
theorem l6_loop (all : List Int) (h v : Int × Int × Int × Int) (at_ : Int) (r : List Int) (hE : Ev (fun k => racewayref23_Of.l0 k all (toL (add4 h v)) sinesL (wrap64 (at_ + 64))) r) :
    Ev (fun k => racewayref23_Of.l6 k all (toL h) sinesL at_ (toL v) 0) r := by
  obtain ⟨h0, h1, h2, h3⟩ := h
  obtain ⟨v0, v1, v2, v3⟩ := v
  obtain ⟨e1, e2, e3, e4⟩ := w1
  simp only [toL]
  refine Ev.step (f := fun k => racewayref23_Of.l6 k all [(h0 + v0) % 4294967296, h1, h2, h3] sinesL at_ [v0, v1, v2, v3] 1) (fun k => ?_) (Ev.step (f := fun k => racewayref23_Of.l6 k all [(h0 + v0) % 4294967296, (h1 + v1) % 4294967296, h2, h3] sinesL at_ [v0, v1, v2, v3] 2) (fun k => ?_) (Ev.step (f := fun k => racewayref23_Of.l6 k all [(h0 + v0) % 4294967296, (h1 + v1) % 4294967296, (h2 + v2) % 4294967296, h3] sinesL at_ [v0, v1, v2, v3] 3) (fun k => ?_) (Ev.step (f := fun k => racewayref23_Of.l6 k all [(h0 + v0) % 4294967296, (h1 + v1) % 4294967296, (h2 + v2) % 4294967296, (h3 + v3) % 4294967296] sinesL at_ [v0, v1, v2, v3] 4) (fun k => ?_) (Ev.step (fun k => ?_) hE))))
  · rw [racewayref23_Of.l6, if_pos (by decide), if_pos (by decide), if_pos (by simp), if_pos (by simp), e1]
    exact rfl
  · rw [racewayref23_Of.l6, if_pos (by decide), if_pos (by decide), if_pos (by simp), if_pos (by simp), e2]
    exact rfl
  · rw [racewayref23_Of.l6, if_pos (by decide), if_pos (by decide), if_pos (by simp), if_pos (by simp), e3]
    exact rfl
  · rw [racewayref23_Of.l6, if_pos (by decide), if_pos (by decide), if_pos (by simp), if_pos (by simp), e4]
    exact rfl
  · rw [racewayref23_Of.l6, if_neg (by decide)]
    exact rfl
theorem l7_loop (h : Int × Int × Int × Int) : Ev (fun k => racewayref23_Of.l7 k (toL h) ([] : List Int) 0) ((toL h).flatMap le4) := by
  obtain ⟨h0, h1, h2, h3⟩ := h
  obtain ⟨e1, e2, e3, e4⟩ := w1
  obtain ⟨r0, r1, r2, r3⟩ := rd4 h0 h1 h2 h3
  simp only [toL]
  refine Ev.step (f := fun k => racewayref23_Of.l7 k [h0, h1, h2, h3] ([] ++ le4 h0) 1) (fun k => ?_) (Ev.step (f := fun k => racewayref23_Of.l7 k [h0, h1, h2, h3] ([] ++ le4 h0 ++ le4 h1) 2) (fun k => ?_) (Ev.step (f := fun k => racewayref23_Of.l7 k [h0, h1, h2, h3] ([] ++ le4 h0 ++ le4 h1 ++ le4 h2) 3) (fun k => ?_) (Ev.step (f := fun k => racewayref23_Of.l7 k [h0, h1, h2, h3] ([] ++ le4 h0 ++ le4 h1 ++ le4 h2 ++ le4 h3) 4) (fun k => ?_) (Ev.step (f := fun _ => some ([h0, h1, h2, h3].flatMap le4)) (fun k => ?_) (Ev.now _)))))
  · rw [racewayref23_Of.l7, if_pos (by decide), if_pos (by decide), if_pos (by simp), Option.bind_some, if_pos (by simp), e1, r0]
    exact rfl
  · rw [racewayref23_Of.l7, if_pos (by decide), if_pos (by decide), if_pos (by simp), Option.bind_some, if_pos (by simp [le4]), e2, r1]
    exact rfl
  · rw [racewayref23_Of.l7, if_pos (by decide), if_pos (by decide), if_pos (by simp), Option.bind_some, if_pos (by simp [le4]), e3, r2]
    exact rfl
  · rw [racewayref23_Of.l7, if_pos (by decide), if_pos (by decide), if_pos (by simp), Option.bind_some, if_pos (by simp [le4]), e4, r3]
    exact rfl
  · rw [racewayref23_Of.l7, if_neg (by decide)]
    simp [le4]
theorem l1_loop (all h : List Int) (q : Nat) (bl : List Int) (hbl : bl = (all.drop (64 * q)).take 64) (hq : 64 * q + 64 ≤ all.length) (ha : all.length ≤ 1000000) (hr : ∀ x ∈ all, 0 ≤ x ∧ x < 256) (hh : h.length = 4) (r : List Int)
    (hE : Ev (fun k => racewayref23_Of.l2 k all h sinesL ((64 * q : Nat) : Int) (mN bl 16) h 0) r) :
    ∀ d i : Nat, i + d = 16 → Ev (fun k => racewayref23_Of.l1 k all h sinesL ((64 * q : Nat) : Int) (mN bl i) (i : Int)) r := by
  intro d
  induction d with
  | zero =>
    intro i hi
    obtain rfl : i = 16 := by omega
    refine Ev.step (fun k => ?_) hE
    rw [racewayref23_Of.l1, if_neg (by omega), Option.bind_some, List.nil_append, if_pos (by rw [hh]; decide)]
  | succ d ih =>
    intro i hi
    refine Ev.step (fun k => ?_) (ih (i + 1) (by omega))
    have hg : ∀ j, j < 64 → bl.getD j 0 = all.getD (64 * q + j) 0 := fun j hj => by
      rw [hbl, List.getD_eq_getElem?_getD, List.getElem?_take, if_pos hj, List.getElem?_drop, List.getD_eq_getElem?_getD]
    have r0 := getD_range hr (64 * q + 4 * i)
    have r1 := getD_range hr (64 * q + (4 * i + 1))
    have r2 := getD_range hr (64 * q + (4 * i + 2))
    have r3 := getD_range hr (64 * q + (4 * i + 3))
    have hs : mN bl (i + 1) = mN bl i ++ [all.getD (64 * q + 4 * i) 0 + all.getD (64 * q + (4 * i + 1)) 0 * 256 + all.getD (64 * q + (4 * i + 2)) 0 * 65536 + all.getD (64 * q + (4 * i + 3)) 0 * 16777216] := by
      simp only [mN]
      rw [hg (4 * i) (by omega), hg (4 * i + 1) (by omega), hg (4 * i + 2) (by omega), hg (4 * i + 3) (by omega), word4_sum _ _ _ _ r0 r1 r2 r3]
    rw [hs]
    clear hs hg
    have w0 : wrap64 (((64 * q : Nat) : Int) + wrap64 (4 * (i : Int))) = ((64 * q + 4 * i : Nat) : Int) := by
      rw [wrap64_id (x := 4 * (i : Int)) (by omega) (by omega), wrap64_id (by omega) (by omega)]; omega
    have w1 : wrap64 (((64 * q + 4 * i : Nat) : Int) + 1) = ((64 * q + (4 * i + 1) : Nat) : Int) := by rw [wrap64_id (by clear w0; omega) (by clear w0; omega)]; clear w0; omega
    have w2 : wrap64 (((64 * q + 4 * i : Nat) : Int) + 2) = ((64 * q + (4 * i + 2) : Nat) : Int) := by rw [wrap64_id (by clear w0 w1; omega) (by clear w0 w1; omega)]; clear w0 w1; omega
    have w3 : wrap64 (((64 * q + 4 * i : Nat) : Int) + 3) = ((64 * q + (4 * i + 3) : Nat) : Int) := by rw [wrap64_id (by clear w0 w1 w2; omega) (by clear w0 w1 w2; omega)]; clear w0 w1 w2; omega
    have w4 := w_succ i (by clear w0 w1 w2 w3; omega)
    rw [racewayref23_Of.l1]
    simp only [w0, w1, w2, w3, w4]
    clear w0 w1 w2 w3 w4
    rw [rd_eq all _ _ rfl, rd_eq all _ _ rfl, rd_eq all _ _ rfl, rd_eq all _ _ rfl]
    generalize all.getD (64 * q + 4 * i) 0 = b0 at *
    generalize all.getD (64 * q + (4 * i + 1)) 0 = b1 at *
    generalize all.getD (64 * q + (4 * i + 2)) 0 = b2 at *
    generalize all.getD (64 * q + (4 * i + 3)) 0 = b3 at *
    rw [if_pos (by omega), if_pos (by omega), if_pos (by omega), if_pos (by omega), if_pos (by omega), if_pos (by omega), if_pos (by omega), if_pos (by omega), if_pos (by omega), if_pos (by rw [mN_length]; omega)]
    rw [show ((((b0 % 4294967296 + b1 % 4294967296 * 256 % 4294967296) % 4294967296 + b2 % 4294967296 * 65536 % 4294967296) % 4294967296 + b3 % 4294967296 * 16777216 % 4294967296) % 4294967296) = b0 + b1 * 256 + b2 * 65536 + b3 * 16777216 from by omega]
theorem toL_ofL {l : List Int} (h : l.length = 4) : toL (ofL l) = l := by
  obtain ⟨a, b, c, d, rfl⟩ := four h
  rfl
theorem l0_loop (all : List Int) (Q : Nat) (hQ : all.length = 64 * Q) (ha : all.length ≤ 1000000) (hr : ∀ x ∈ all, 0 ≤ x ∧ x < 256) :
    ∀ d q : Nat, q + d = Q → Ev (fun k => racewayref23_Of.l0 k all (foldQ h0L all q) sinesL ((64 * q : Nat) : Int)) ((foldQ h0L all Q).flatMap le4) := by
  intro d
  induction d with
  | zero =>
    intro q hq
    obtain rfl : q = Q := by omega
    have e := toL_ofL (foldQ_length h0L all rfl q)
    have := l7_loop (ofL (foldQ h0L all q))
    rw [e] at this
    refine Ev.step (fun k => ?_) this
    rw [racewayref23_Of.l0, if_neg (by omega)]
  | succ d ih =>
    intro q hq
    have hl := foldQ_length h0L all rfl q
    have e := toL_ofL hl
    have h0 := ih (q + 1) (by omega)
    have em : foldQ h0L all (q + 1) = toL (add4 (ofL (foldQ h0L all q)) (roundN ((all.drop (64 * q)).take 64) (ofL (foldQ h0L all q)) 64)) := rfl
    rw [em] at h0
    have hw : wrap64 (((64 * q : Nat) : Int) + 64) = ((64 * (q + 1) : Nat) : Int) := by rw [wrap64_id (by omega) (by omega)]; omega
    rw [← hw] at h0
    clear hw em
    generalize hbl : (all.drop (64 * q)).take 64 = bl at h0
    have h6 := l6_loop all (ofL (foldQ h0L all q)) (roundN bl (ofL (foldQ h0L all q)) 64) _ _ h0
    rw [e] at h6
    generalize foldQ h0L all q = h at *
    have h5 := l5_loop all h (mN bl 16) bl _ (ofL h) rfl _ h6 16 0 rfl
    have h4 := l4_loop all h (mN bl 16) bl _ (ofL h) rfl _ h5 16 0 rfl
    have h3 := l3_loop all h (mN bl 16) bl _ (ofL h) rfl _ h4 16 0 rfl
    have h2 := l2_loop all h (mN bl 16) bl _ (ofL h) rfl _ h3 16 0 rfl
    have h2' : Ev (fun k => racewayref23_Of.l2 k all h sinesL ((64 * q : Nat) : Int) (mN bl 16) h 0) ((foldQ h0L all Q).flatMap le4) := by
      have e0 : toL (roundN bl (ofL h) 0) = h := e
      rw [e0] at h2
      exact h2
    have h1 := l1_loop all h q bl hbl.symm (by omega) ha hr hl _ h2' 16 0 rfl
    refine Ev.step (fun k => ?_) h1
    rw [racewayref23_Of.l0, if_pos (by omega)]
    rfl
theorem Of_ev (bs : List Int) (hb : bs.length ≤ 100000) (hr : ∀ x ∈ bs, 0 ≤ x ∧ x < 256) : Ev (fun k => racewayref23_Of.f k bs) (digestL bs) := by
  unfold racewayref23_Of.f
  refine Ev.bind (a := padL bs) ⟨101, fun k hk => padded_eq bs hb k (by omega)⟩ ?_
  have hs : racewayref23_sines.f = some sinesL := rfl
  rw [hs]
  simp only [Option.bind_some]
  have hl := padL_length bs
  have h := l0_loop (padL bs) ((bs.length + 72) / 64) hl (by omega) (padL_byts hr) ((bs.length + 72) / 64) 0 (by omega)
  have e : (foldQ h0L (padL bs) ((bs.length + 72) / 64)).flatMap le4 = digestL bs := by
    unfold digestL foldW
    rw [hl, Nat.mul_div_cancel_left _ (by decide)]
  rw [e] at h
  exact h
theorem Of_some (bs : List Int) (hb : bs.length ≤ 100000) (hr : ∀ x ∈ bs, 0 ≤ x ∧ x < 256) : ∃ k, racewayref23_Of.f k bs = some (digestL bs) := by
  obtain ⟨K, h⟩ := Of_ev bs hb hr
  exact ⟨K, h K (Nat.le_refl _)⟩
end Go.Proofs.YticpbhpehoolfaaDoor
