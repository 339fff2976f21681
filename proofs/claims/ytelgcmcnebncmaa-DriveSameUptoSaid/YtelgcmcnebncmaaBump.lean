/- A drive each of whose bytes is one more. -/
import Derived.Test.YtelgcmcnebncmaaL9
namespace Go.Proofs.Ytelgcmcnebncmaa.Dr
open Go.RowKit Go.Proofs Go.Proofs.Ytelgcmcnebncmaa.Ring

/-- Every byte one more. -/
def D.bump (d : Dr.D) : Dr.D := { d with bd := d.bd.map fun b => ⟨b.data.map (· + 1), b.safe⟩ }
theorem bump_at (d : Dr.D) {i : Nat} (hi : i < d.bd.length) : (Dr.D.bump d).at i = ⟨(d.at i).data.map (· + 1), (d.at i).safe⟩ := by
  unfold Dr.D.at Dr.D.bump
  simp [List.getD_eq_getElem?_getD, List.getElem?_map, List.getElem?_eq_getElem hi]
theorem bump_image {d : Dr.D} {m N : Nat} (h : d.Ok m N) : (Dr.D.bump d).image = d.image.map fun f => (f.1, f.2.map (· + 1)) := by
  unfold Dr.D.image Dr.D.files
  rw [List.map_map]
  refine List.map_congr_left fun p hp => ?_
  rw [bump_at d (h.inN p hp)]
  rfl
theorem bump_ok {d : Dr.D} {m N : Nat} (h : d.Ok m N) : (Dr.D.bump d).Ok m N := by
  have hl : (Dr.D.bump d).bd.length = d.bd.length := by unfold Dr.D.bump; simp
  refine ⟨h.room, h.now, h.kept, fun p hp => hl ▸ h.inN p hp, fun p hp => hl ▸ h.inK p hp, fun c hc s hs => ⟨(h.inP c hc s hs).1, fun i hi => hl ▸ (h.inP c hc s hs).2 i hi⟩, h.one, h.oneP, fun b hb => ?_, h.lenN, h.lenK, h.namN, h.namK⟩
  unfold Dr.D.bump at hb
  obtain ⟨b0, hb0, rfl⟩ := List.mem_map.1 hb
  have := h.safe b0 hb0
  simpa using this
end Go.Proofs.Ytelgcmcnebncmaa.Dr
