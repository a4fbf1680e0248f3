/- How a text is read. -/
import Derived.Test.YtcekeipkofblmaaDoorY
set_option linter.unusedSimpArgs false
set_option linter.unusedVariables false
namespace Go.Proofs.YtcekeipkofblmaaDoor

open Go.ChangeShapes Go.WideShapes Go.Deep Go.RowKit Go.ChangeAt

theorem Rd.argStr {H : Type} {enc : TypeId × Value → H} {P : Program} {w : World} {t : TypeId} {base : Nat} (ht : P.underlying t = some .string) {v : Value} {d : DataW H} {p : List MemPlace}
    (hok : Value.okWide P w .any base t v) (hv : DataW.Trod enc P w 0 (fun _ => true) true t v d p) : ∃ l : List UInt8, l.length ≤ maxLen ∧ V (cx0 w) w (.t l) v := by
  obtain ⟨m, rfl⟩ := okWide_string ht hok
  obtain ⟨s, ⟨l, rfl, h1⟩, h2⟩ := (Rd.string (enc := enc) (w := w) ht).arg1 hv rfl
  have : (⟨l.toArray⟩ : ByteArray) = m := by simpa [VS, eq_comm] using h2
  subst this
  exact ⟨l, h1, by simp [V, VS]⟩

end Go.Proofs.YtcekeipkofblmaaDoor
