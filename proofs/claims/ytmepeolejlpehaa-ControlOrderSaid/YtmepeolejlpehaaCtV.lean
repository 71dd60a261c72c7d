/- The control's Recv of what answers, all stages in one; of what does not. Conditions: where it lies; what the packet holds. -/
import Derived.Test.YtmepeolejlpehaaCtC2
namespace Go.Proofs.Ytmepeolejlpehaa
open Go.RowKit Go.Maps Go.Proofs.YtmepeolejlpehaaW.PrintWords Go.Proofs.YtmepeolejlpehaaW.PrintLast Go.Proofs.YtmepeolejlpehaaW.PrintMore
/-- It asks anew. -/
def AskTo (s s' : AS) (g k tg lo hi : Int) : Prop := ∃ d2, s' = { s with num := s.num + 1, group := g, cmd := ⟨k, s.id, s.num + 1, lo, hi, tg, d2⟩, busy := true, sent := false }
/-- What an answer makes of a control and its asker. -/
def Nx (s : AS) (c : CS) (err : Int) (dl sl cl : List ByteArray) (s' : AS) (c' : CS) (sl' cl' : List ByteArray) : Prop :=
  (c.stage = 1 ∧ err ≠ 0 ∧ s' = { s with busy := false } ∧ c' = { c with stage := 0, e := err, ended := true, data := .slice none 0 0 } ∧ sl' = sl ∧ cl' = []) ∨
  (c.stage = 1 ∧ err = 0 ∧ AskTo { s with busy := false } s' c.tgo 8 0 c.lo c.hi ∧ (∃ d3, c' = { c with stage := 2, data := d3 }) ∧ sl' = dl ∧ cl' = dl) ∨
  (c.stage = 2 ∧ err ≠ 0 ∧ AskTo { s with busy := false } s' c.from' 8 0 c.lo c.hi ∧ (∃ d3, c' = { c with stage := 4, e := err, data := d3 }) ∧ sl' = cl ∧ cl' = cl) ∨
  (c.stage = 2 ∧ err = 0 ∧ AskTo { s with busy := false } s' 0 10 c.tgo c.lo c.hi ∧ (∃ d3, c' = { c with stage := 3, data := d3 }) ∧ sl' = [] ∧ cl' = cl) ∨
  (c.stage = 3 ∧ s' = { s with busy := false } ∧ c' = { c with stage := 0, e := err, ended := true, data := .slice none 0 0 } ∧ sl' = sl ∧ cl' = []) ∨
  (c.stage = 4 ∧ s' = { s with busy := false } ∧ c' = { c with stage := 0, e := c.e, ended := true, data := .slice none 0 0 } ∧ sl' = sl ∧ cl' = [])
theorem T.RecvAns (P M Q base n : Nat) (s : AS) (c : CS) (sl cl : List ByteArray) (err rn : Int) (A : Option Addr) (cc : Nat) (dl : List ByteArray) (w : World) (h : CJ w P M Q base n s c sl cl) (hb : s.busy = true) (hst : c.stage = 1 ∨ c.stage = 2 ∨ c.stage = 3 ∨ c.stage = 4) (hnum : s.num ≤ 80000) (herr : (err == 15) = false)
    (hd : Kd.C Kd.string w A dl.length dl) (hdl : dl.length ≤ 1000) (hAP : ∀ ad, A = some ad → ad.block ≠ P ∧ ad.block < w.heap.size) :
    Calls Try.prog 10 #[.pointer (some ⟨Q, 0, none⟩), .agg (packV (-s.id) s.group s.id s.num err rn (.slice A dl.length cc))] w fun e w' => e = .returned (.int .i64 0) ∧ ∃ n' s' c' sl' cl', n' ≤ n + 1 ∧ Nx s c err dl sl cl s' c' sl' cl' ∧ CJ w' P M Q base n' s' c' sl' cl' ∧ FC [P, M, Q] w w' := by
  have hcall : ∀ wc, FC [] (w.alloc (.cells (packV (-s.id) s.group s.id s.num err rn (.slice A dl.length cc)).toList.toArray 57)) wc → Calls Try.prog 20 #[.pointer (some ⟨P, 0, none⟩), .agg (packV (-s.id) s.group s.id s.num err rn (.slice A dl.length cc)).toList.toArray] wc fun e w' => ∃ d n', e = .returned (.tuple #[.agg (rep err rn d), .bool true]) ∧ Kd.R Kd.string 9 w' wc.heap.size (fun _ => True) d dl ∧ AK w' P M n' { s with busy := false } ∧ n' ≤ n + 1 ∧ FC [P, M] wc w' := fun wc hf => by
    have hf0 : FC [] w wc := ((FC.refl [] w).alloc _).trans hf
    have hb0 : Below w.heap.size w wc := ⟨hf0.os, hf0.tape, hf0.output, hf0.size, fun k hk => hf0.block k hk (by simp)⟩
    refine (T.RecvA P M n s err rn A cc dl wc (h.ask.of_fc hf0 (by simp) (by simp)) hb herr (Kd.C_below hd hb0) hdl (fun ad e => ⟨(hAP ad e).1, Nat.lt_of_lt_of_le (hAP ad e).2 hf0.size⟩)).mono ?_
    rintro e w' ⟨d, rfl, hr, ha, hfc⟩
    exact ⟨d, n, rfl, hr, ha, by omega, hfc.sub (by simp)⟩
  have hpl : (packV (-s.id) s.group s.id s.num err rn (.slice A dl.length cc)).toList.length = 40 := rfl
  have hnb : ({ s with busy := false } : AS).busy = false := rfl
  rcases hst with h1 | h2 | h3 | h4
  · by_cases he : err = 0
    · refine (T.RecvC1 P M Q base n s { s with busy := false } c sl cl _ err rn dl w h hpl hcall rfl h1 hnb hnum hdl he).mono ?_
      rintro e w' ⟨rfl, n', hn, ⟨d2, d3, hj⟩, hf⟩
      exact ⟨rfl, n', _, _, _, _, hn, .inr (.inl ⟨h1, he, ⟨d2, rfl⟩, ⟨d3, rfl⟩, rfl, rfl⟩), hj, hf⟩
    · refine (T.RecvC1e P M Q base n s { s with busy := false } c sl cl _ err rn dl w h hpl hcall rfl h1 (by simpa using he)).mono ?_
      rintro e w' ⟨rfl, n', hn, hj, hf⟩
      exact ⟨rfl, n', _, _, _, _, hn, .inl ⟨h1, he, rfl, rfl, rfl, rfl⟩, hj, hf⟩
  · by_cases he : err = 0
    · refine (T.RecvC2 P M Q base n s { s with busy := false } c sl cl _ err rn dl w h hpl hcall rfl h2 hnb hnum hdl he).mono ?_
      rintro e w' ⟨rfl, n', hn, ⟨d2, d3, hj⟩, hf⟩
      exact ⟨rfl, n', _, _, _, _, hn, .inr (.inr (.inr (.inl ⟨h2, he, ⟨d2, rfl⟩, ⟨d3, rfl⟩, rfl, rfl⟩))), hj, hf⟩
    · refine (T.RecvC2e P M Q base n s { s with busy := false } c sl cl _ err rn dl w h hpl hcall rfl h2 hnb hnum hdl (by simpa using he)).mono ?_
      rintro e w' ⟨rfl, n', hn, ⟨d2, d3, hj⟩, hf⟩
      exact ⟨rfl, n', _, _, _, _, hn, .inr (.inr (.inl ⟨h2, he, ⟨d2, rfl⟩, ⟨d3, rfl⟩, rfl, rfl⟩)), hj, hf⟩
  · refine (T.RecvC3 P M Q base n s { s with busy := false } c sl cl _ err rn dl w h hpl hcall rfl h3).mono ?_
    rintro e w' ⟨rfl, n', hn, hj, hf⟩
    exact ⟨rfl, n', _, _, _, _, hn, .inr (.inr (.inr (.inr (.inl ⟨h3, rfl, rfl, rfl, rfl⟩)))), hj, hf⟩
  · refine (T.RecvC4 P M Q base n s { s with busy := false } c sl cl _ err rn dl w h hpl hcall rfl h4).mono ?_
    rintro e w' ⟨rfl, n', hn, hj, hf⟩
    exact ⟨rfl, n', _, _, _, _, hn, .inr (.inr (.inr (.inr (.inr ⟨h4, rfl, rfl, rfl, rfl⟩)))), hj, hf⟩
theorem T.RecvNot (P M Q base n : Nat) (s : AS) (c : CS) (sl cl : List ByteArray) (g2 n2 err rn : Int) (A : Option Addr) (cc : Nat) (dl : List ByteArray) (w : World) (h : CJ w P M Q base n s c sl cl) (hb : s.busy = true) (hn : n ≤ 100000)
    (hne : ((g2 == s.group) = false ∨ (g2 = s.group ∧ (n2 == s.num) = false)) ∨ (g2 = s.group ∧ n2 = s.num ∧ err = 15))
    (hd : Kd.C Kd.string w A dl.length dl) (hdl : dl.length ≤ 1000) (hAP : ∀ ad, A = some ad → ad.block ≠ P ∧ ad.block < w.heap.size) :
    Calls Try.prog 10 #[.pointer (some ⟨Q, 0, none⟩), .agg (packV (-s.id) g2 s.id n2 err rn (.slice A dl.length cc))] w fun e w' => e = .returned (.int .i64 0) ∧ ∃ n' s', n' ≤ n + 1 ∧ (s' = s ∨ s' = { s with sent := false }) ∧ CJ w' P M Q base n' s' c sl cl ∧ FC [P, M] w w' := by
  have hpl : (packV (-s.id) g2 s.id n2 err rn (.slice A dl.length cc)).toList.length = 40 := rfl
  rcases hne with hne | ⟨rfl, rfl, rfl⟩
  · refine (T.RecvCN P M Q base n s s c sl cl (packV (-s.id) g2 s.id n2 err rn (.slice A dl.length cc)).toList 0 0 [] w h hpl (fun wc hf => ?_) rfl).mono ?_
    · have hf0 : FC [] w wc := ((FC.refl [] w).alloc _).trans hf
      have hb0 : Below w.heap.size w wc := ⟨hf0.os, hf0.tape, hf0.output, hf0.size, fun k hk => hf0.block k hk (by simp)⟩
      have ha := h.ask.of_fc hf0 (by simp) (by simp)
      refine (T.RecvN P M n s g2 n2 err rn A cc dl wc ha hb hne (Kd.C_below hd hb0) hdl (fun ad e => ⟨(hAP ad e).1, Nat.lt_of_lt_of_le (hAP ad e).2 hf0.size⟩)).mono ?_
      rintro e w' ⟨rfl, hbl⟩
      exact ⟨.slice none 0 0, n, rfl, Kd.R_nil _ _ _ _ _, ha.of_fc (S := []) (FC.of hbl) (by simp) (by simp), by omega, FC.of hbl⟩
    · rintro e w' ⟨rfl, n', hn, hj, hf⟩
      exact ⟨rfl, n', _, hn, .inl rfl, hj, hf⟩
  · refine (T.RecvCN P M Q base n s { s with sent := false } c sl cl (packV (-s.id) s.group s.id s.num 15 rn (.slice A dl.length cc)).toList 0 0 [] w h hpl (fun wc hf => ?_) rfl).mono ?_
    · have hf0 : FC [] w wc := ((FC.refl [] w).alloc _).trans hf
      have hb0 : Below w.heap.size w wc := ⟨hf0.os, hf0.tape, hf0.output, hf0.size, fun k hk => hf0.block k hk (by simp)⟩
      have ha := h.ask.of_fc hf0 (by simp) (by simp)
      refine (T.RecvL P M n s rn A cc dl wc ha hb hn (Kd.C_below hd hb0) hdl (fun ad e => ⟨(hAP ad e).1, Nat.lt_of_lt_of_le (hAP ad e).2 hf0.size⟩)).mono ?_
      rintro e w' ⟨rfl, ⟨n', hn', ha'⟩, hbl⟩
      exact ⟨.slice none 0 0, n', rfl, Kd.R_nil _ _ _ _ _, ha', hn', hbl⟩
    · rintro e w' ⟨rfl, n', hn, hj, hf⟩
      exact ⟨rfl, n', _, hn, .inr rfl, hj, hf⟩
end Go.Proofs.Ytmepeolejlpehaa
