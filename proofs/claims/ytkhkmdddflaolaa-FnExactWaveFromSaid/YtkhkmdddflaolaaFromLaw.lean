/- The wave that changes up at some ticks and down at others: it changes at just these ticks exactly if no tick is idle or both. Plain lists; no condition. -/
import Derived.Test.YtkhkmdddflaolaaWMore
import Derived.OpenShut
import Derived.Laws.BitsAllLaws
namespace Go.Proofs.Ytkhkmdddflaolaa.P
open Go.RowKit Go.Proofs.YtkhkmdddflaolaaW.PrintWords Go.Proofs.YtkhkmdddflaolaaW.PrintLast Go.Proofs.YtkhkmdddflaolaaW.PrintMore
set_option linter.unusedVariables false
set_option linter.unusedSimpArgs false

/-- The ticks below n of some kind. -/
def collect (p : Nat → Bool) : Nat → List Int
  | 0 => []
  | n + 1 => collect p n ++ if p n = true then [(n : Int)] else []
theorem collect_lt (p : Nat → Bool) (n : Nat) : ∀ x ∈ collect p n, 0 ≤ x ∧ x < (n : Int) := by
  induction n with
  | zero => intro x h; cases h
  | succ n ih =>
    intro x h
    rw [collect, List.mem_append] at h
    rcases h with h | h
    · have := ih x h; omega
    · split at h
      · rw [List.mem_singleton.mp h]; omega
      · cases h
theorem collect_mem (p : Nat → Bool) (n i : Nat) : (i : Int) ∈ collect p n ↔ i < n ∧ p i = true := by
  induction n with
  | zero => simp [collect]
  | succ n ih =>
    rw [collect, List.mem_append, ih]
    by_cases hp : p n = true
    · rw [if_pos hp, List.mem_singleton]
      constructor
      · rintro (⟨h1, h2⟩ | h)
        · exact ⟨by omega, h2⟩
        · obtain rfl : i = n := by omega
          exact ⟨by omega, hp⟩
      · rintro ⟨h1, h2⟩
        by_cases h : i = n
        · exact .inr (by rw [h])
        · exact .inl ⟨by omega, h2⟩
    · rw [if_neg hp]
      constructor
      · rintro (⟨h1, h2⟩ | h)
        · exact ⟨by omega, h2⟩
        · cases h
      · rintro ⟨h1, h2⟩
        refine .inl ⟨?_, h2⟩
        by_cases h : i = n
        · rw [h] at h2; exact absurd h2 hp
        · omega
theorem collect_congr {p q : Nat → Bool} (n : Nat) (h : ∀ i, i < n → p i = q i) : collect p n = collect q n := by
  induction n with
  | zero => rfl
  | succ n ih => rw [collect, collect, ih (fun i hi => h i (by omega)), h n (by omega)]
theorem collect_inj {p q : Nat → Bool} (n : Nat) (h : collect p n = collect q n) : ∀ i, i < n → p i = q i := by
  intro i hi
  have h1 := collect_mem p n i
  have h2 := collect_mem q n i
  rw [h] at h1
  cases hp : p i <;> cases hq : q i <;> simp_all
theorem collect_length (p : Nat → Bool) (n : Nat) : (collect p n).length ≤ n := by
  induction n with
  | zero => exact Nat.le_refl _
  | succ n ih => rw [collect, List.length_append]; split <;> simp <;> omega
/-- A set of ticks: strictly rising. -/
def rising (l : List Int) : Prop := l.Pairwise (· < ·)
theorem collect_snoc_lt {p : Nat → Bool} {n : Nat} : rising (collect p n) := by
  induction n with
  | zero => exact List.Pairwise.nil
  | succ n ih =>
    rw [collect]
    split
    · refine List.pairwise_append.mpr ⟨ih, List.pairwise_singleton _ _, fun a ha b hb => ?_⟩
      rw [List.mem_singleton.mp hb]
      exact (collect_lt p n a ha).2
    · rw [List.append_nil]; exact ih
theorem rising_ext : ∀ (a b : List Int), rising a → rising b → (∀ x, x ∈ a ↔ x ∈ b) → a = b
  | [], [], _, _, _ => rfl
  | [], y :: b, _, _, h => by have := (h y).mpr List.mem_cons_self; cases this
  | x :: a, [], _, _, h => by have := (h x).mp List.mem_cons_self; cases this
  | x :: a, y :: b, ha, hb, h => by
    obtain ⟨ha1, ha2⟩ := List.pairwise_cons.mp ha
    obtain ⟨hb1, hb2⟩ := List.pairwise_cons.mp hb
    have hxy : x = y := by
      rcases List.mem_cons.mp ((h x).mp List.mem_cons_self) with h1 | h1
      · exact h1
      · rcases List.mem_cons.mp ((h y).mpr List.mem_cons_self) with h2 | h2
        · exact h2.symm
        · have := hb1 x h1; have := ha1 y h2; omega
    subst hxy
    congr 1
    refine rising_ext a b ha2 hb2 (fun z => ⟨fun hz => ?_, fun hz => ?_⟩)
    · rcases List.mem_cons.mp ((h z).mp (List.mem_cons_of_mem _ hz)) with h1 | h1
      · have := ha1 z hz; omega
      · exact h1
    · rcases List.mem_cons.mp ((h z).mpr (List.mem_cons_of_mem _ hz)) with h1 | h1
      · have := hb1 z hz; omega
      · exact h1
theorem set_collect {l : List Int} {n : Nat} (h1 : rising l) (h2 : ∀ x ∈ l, 0 ≤ x ∧ x < (n : Int)) : l = collect (fun i => decide ((i : Int) ∈ l)) n := by
  refine rising_ext _ _ h1 collect_snoc_lt (fun x => ⟨fun hx => ?_, fun hx => ?_⟩)
  · obtain ⟨i, rfl⟩ := Int.eq_ofNat_of_zero_le (h2 x hx).1
    exact (collect_mem _ n i).mpr ⟨by have := (h2 _ hx).2; omega, decide_eq_true hx⟩
  · obtain ⟨i, rfl⟩ := Int.eq_ofNat_of_zero_le (collect_lt _ _ x hx).1
    exact of_decide_eq_true ((collect_mem _ n i).mp hx).2
/-- The level ahead of tick i. -/
def levU (u d : List Int) : Nat → Bool
  | 0 => false
  | i + 1 => if (i : Int) ∈ u then true else if (i : Int) ∈ d then false else levU u d i
/-- A tick at which the reference stops. -/
def badU (u d : List Int) (i : Nat) : Bool := (decide ((i : Int) ∈ u) && (decide ((i : Int) ∈ d) || levU u d i)) || (decide ((i : Int) ∈ d) && !levU u d i)
def upAt (u d : List Int) (i : Nat) : Bool := levU u d (i + 1) && !levU u d i
def downAt (u d : List Int) (i : Nat) : Bool := !levU u d (i + 1) && levU u d i
theorem bad_iff (u d : List Int) (i : Nat) : badU u d i = false ↔ upAt u d i = decide ((i : Int) ∈ u) ∧ downAt u d i = decide ((i : Int) ∈ d) := by
  unfold badU upAt downAt
  rw [levU]
  by_cases hu : (i : Int) ∈ u <;> by_cases hd : (i : Int) ∈ d <;> cases levU u d i <;> simp [hu, hd]
/-- The checks come out well exactly if no tick is bad. -/
theorem checks_iff {u d : List Int} {n : Nat} (hu : rising u) (hu2 : ∀ x ∈ u, 0 ≤ x ∧ x < (n : Int)) (hd : rising d) (hd2 : ∀ x ∈ d, 0 ≤ x ∧ x < (n : Int)) :
    (collect (upAt u d) n = u ∧ collect (downAt u d) n = d) ↔ ∀ i, i < n → badU u d i = false := by
  have e1 := set_collect hu hu2
  have e2 := set_collect hd hd2
  constructor
  · rintro ⟨h1, h2⟩ i hi
    rw [bad_iff]
    exact ⟨collect_inj n (h1.trans e1) i hi, collect_inj n (h2.trans e2) i hi⟩
  · intro h
    refine ⟨(collect_congr n (fun i hi => ((bad_iff u d i).mp (h i hi)).1)).trans e1.symm, (collect_congr n (fun i hi => ((bad_iff u d i).mp (h i hi)).2)).trans e2.symm⟩
end Go.Proofs.Ytkhkmdddflaolaa.P
