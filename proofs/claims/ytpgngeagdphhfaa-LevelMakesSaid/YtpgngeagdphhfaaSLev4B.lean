/- A policy's lattice: the two ways. -/
import Derived.Test.YtpgngeagdphhfaaSLev4
namespace Go.Ab
theorem New_two (names : List ByteArray) (pairs : List (Int × Int)) (pp : List FV) : ∃ g, (namedB names = true → Clo names.length (layP (diag names.length) pairs) g) ∧
    ((newC names pairs g = 0 ∧ Nice names.length g ∧ Rt N_level_New [.fz (polE names pairs pp)] = some ([.fz (.pt 195 true (latR names g) 0), .fz (.int .i64 0)], [])) ∨
     (newC names pairs g ≠ 0 ∧ Rt N_level_New [.fz (polE names pairs pp)] = some ([.fz .nilp, .fz (.int .i64 (newC names pairs g))], []))) := by
  obtain ⟨g, hg, hn⟩ := New_ok names pairs pp
  refine ⟨g, hg, ?_⟩
  split at hn
  · rename_i h
    have hnm : namedB names = true := by
      unfold newC at h
      cases q : namedB names with
      | true => rfl
      | false => rw [q] at h; cases h
    exact .inl ⟨h, nice_of (hg hnm) h, hn⟩
  · rename_i h
    exact .inr ⟨h, hn⟩
end Go.Ab
