/- strings.Join, where the answer is within one allocation: the contract of the Go function. -/
import Derived.Test.YtbfaadhblmfcjaaDoorP0
import Derived.Test.YtbfaadhblmfcjaaDoorWMore
import Derived.OpenShut
import Derived.Laws.BitsAllLaws
import Derived.Test.YtbfaadhblmfcjaaDoorShelf7
import Derived.Test.YtbfaadhblmfcjaaDoorShelf2
namespace Go.Proofs.YtbfaadhblmfcjaaDoor.P
open Go.RowKit Go.Proofs.YtbfaadhblmfcjaaDoorW.PrintWords Go.Proofs.YtbfaadhblmfcjaaDoorW.PrintLast Go.Proofs.YtbfaadhblmfcjaaDoorW.PrintMore
open Go.Shelf Go.Lib

theorem join_extra : Builder.Extra Tryd.prog Tryd.lays156_ren where
  sizeBuilder := by kernel_rfl
  liesBuilder := by kernel_rfl
  t5 := Tryd.lays105.t5
  a5 := Tryd.lays105.a5
  z5 := Tryd.lays105.z5
  v5 := Tryd.lays105.v5
  infoByte := by kernel_rfl
  cellsByte := by kernel_rfl
  sizeByte := by kernel_rfl
  neB5 := by decide

/-- The texts, one behind another, with a text between. -/
def joinV (l : List ByteArray) (sep : ByteArray) : ByteArray := ⟨(Lib.join (l.map (·.data.toList)) sep.data.toList).toArray⟩
def strings_Join.f (l0 : List ByteArray) (a1 : ByteArray) : Option (ByteArray) := if l0.length ≤ 100000000 ∧ (joinV l0 a1).size ≤ 140737488355328 then some (joinV l0 a1) else none

theorem spot_of {α : Type} {d : Kd α} {e : Nat} {w : World} {base : Nat} {ok : Nat → Prop} {A : Option Addr} {n c : Nat} {xs : List α} (h : d.R e w base ok (.slice A n c) xs) : ∀ ad, A = some ad → ad.off = 0 ∧ ad.spot = none := by
  obtain ⟨inner, ho⟩ := Kd.R_own h
  rintro ad rfl
  rcases ho.2 with ⟨hv, _⟩ | ⟨k, cap, rest, hv, _⟩
  · cases hv
  · cases hv
    exact ⟨rfl, rfl⟩
theorem join_cells (w : World) (A0 : Option Addr) (l0 : List ByteArray) (hr0 : Kd.C Kd.string w A0 l0.length l0) (ad : Addr) (he : A0 = some ad) (j : Nat) (x : ByteArray) (hx : l0[j]? = some x) : w.cell? (ad.add j) = some (.string x) := by
  have hj : j < l0.length := (List.getElem?_eq_some_iff.mp hx).1
  obtain ⟨ad', e, hc⟩ := Kd.at_string hr0 (j : Int) (by omega) (by omega)
  rw [he] at e
  cases e
  rw [Int.toNat_natCast] at hc
  rw [hc]
  congr 2
  simp [rdOf, List.getD_eq_getElem?_getD, hx]
theorem strings_Join.calls (A0 : Option Addr) (c0 : Nat) (l0 : List ByteArray) (a1 : ByteArray) (r : ByteArray) (w : World) (hr0 : Kd.C Kd.string w A0 l0.length l0) (hc0 : l0.length ≤ c0) (hs0 : ∀ ad, A0 = some ad → ad.off = 0 ∧ ad.spot = none) (h : strings_Join.f l0 a1 = some r) :
    Calls Tryd.prog 42 #[.slice A0 l0.length c0, .string a1] w fun e w' => e = .returned (.string r) ∧ Below w.heap.size w w' := by
  unfold strings_Join.f at h
  split at h
  · rename_i hc
    obtain rfl := Option.some.inj h
    cases l0 with
    | nil =>
      refine (Any.strings_Join_none Tryd.lays156 join_extra A0 c0 a1 w).mono fun e w' h => ⟨h.1, ?_⟩
      rw [h.2]; exact Below.refl _ _
    | cons x l =>
      obtain ⟨ad, rfl, h0⟩ := Kd.at_string hr0 0 (Int.le_refl 0) (by simp only [List.length_cons]; omega)
      have hbk := World.block_lt_of_cell? _ _ h0
      obtain ⟨e1, e2⟩ := hs0 ad rfl
      rcases ad with ⟨bk, off, spot⟩
      cases e1
      cases e2
      have hcells : ∀ (j : Nat) y, (x :: l)[j]? = some y → w.cell? ⟨bk, 0 + j, none⟩ = some (.string y) := by
        intro j y hy
        have h := join_cells w _ _ hr0 ⟨bk, 0, none⟩ rfl j y hy
        have e : (⟨bk, 0, none⟩ : Addr).add j = ⟨bk, 0 + j, none⟩ := by
          unfold Addr.add
          split
          · rename_i hj; subst hj; rfl
          · rfl
        rwa [e] at h
      have hsz : (Lib.join ((x :: l).map (·.data.toList)) a1.data.toList).length ≤ 140737488355328 := by
        have h := hc.2
        have e : (joinV (x :: l) a1).size = (Lib.join ((x :: l).map (·.data.toList)) a1.data.toList).length := by
          show (List.toArray _).size = _
          simp
        rw [e] at h
        omega
      have hb : bk < w.heap.size := by
        have h := hbk
        simpa [Addr.add] using h
      exact Any.strings_Join Tryd.lays156 join_extra bk 0 c0 (x :: l) a1 w hcells hb (by omega) hc0 hsz
  · cases h
end Go.Proofs.YtbfaadhblmfcjaaDoor.P
