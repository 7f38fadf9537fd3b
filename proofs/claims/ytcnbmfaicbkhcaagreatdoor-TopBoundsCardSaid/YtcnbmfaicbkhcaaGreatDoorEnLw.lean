/-
  Things with parts: plain law for the statements. No function of the program is walked here.
-/
import Derived.Test.YtcnbmfaicbkhcaaGreatDoorEn6
import Derived.Test.YtcnbmfaicbkhcaaGreatDoorJU
set_option maxRecDepth 100000
namespace Go.Proofs.YtcnbmfaicbkhcaaGreatDoor
open Go Go.RowKit
/-- Components, of which those from k on have nothing yet. -/
structure PtI (ds : List V3) (l : List Cmp) (k : Nat) : Prop where
  len : l.length = ds.length
  at_ : ∀ (c : Nat) (x : Cmp), l[c]? = some x → ds[c]? = some x.2.d ∧ (k ≤ c → x.2.S = [])
  ev : EvL k l
section
variable {ds : List V3} {l : List Cmp} {k : Nat}
theorem PtI.skip (h : PtI ds l k) : PtI ds l (k + 1) := ⟨h.len, fun c x hx => ⟨(h.at_ c x hx).1, fun hc => (h.at_ c x hx).2 (by omega)⟩, h.ev.more⟩
theorem PtI.put (h : PtI ds l k) {X : Nat} {t : SlS} (hx : l[k]? = some (X, t)) (i : Int) (v : V3) : PtI ds (l.set k (X, t.put i v)) (k + 1) where
  len := by rw [List.length_set]; exact h.len
  at_ c x hc := by
    rw [List.getElem?_set] at hc
    split at hc
    · rename_i e
      subst e
      split at hc
      · injection hc with hc
        subst hc
        refine ⟨?_, fun h2 => by omega⟩
        rw [SlS.put_d]
        exact (h.at_ _ _ hx).1
      · cases hc
    · exact ⟨(h.at_ c x hc).1, fun h2 => (h.at_ c x hc).2 (by omega)⟩
  ev := h.ev.more.set (by
    have h1 := h.ev _ (List.mem_of_getElem? hx)
    have h2 := SlS.put_len t i v
    show (t.put i v).evs.length ≤ _
    have h3 : t.evs.length ≤ k := h1
    omega)
theorem PtI.none (h : PtI ds l k) {c : Nat} (hc : k ≤ c) (i : Int) : hasAt l i c = false := by
  unfold hasAt
  cases hx : l[c]? with
  | none => rfl
  | some x => simp only; unfold SlS.has; rw [(h.at_ c x hx).2 hc]; rfl
end
end Go.Proofs.YtcnbmfaicbkhcaaGreatDoor
