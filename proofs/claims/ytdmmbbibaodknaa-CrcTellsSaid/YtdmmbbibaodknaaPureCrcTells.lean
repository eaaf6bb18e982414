/- CrcTells: whatever the sum, the bytes and the count, the program's sums are the reference's, and the law answers true. No condition. -/
import Derived.Test.YtdmmbbibaodknaaCrcPure
namespace Go.Proofs.Ytdmmbbibaodknaa.Pure
open Go.RowKit Go.Proofs.Ytdmmbbibaodknaa.P Go.Proofs.Ytdmmbbibaodknaa.G Go.Proofs.Ytdmmbbibaodknaa.CrcPlain Go.Proofs.Ytdmmbbibaodknaa.CrcPure Go.Proofs.YtdmmbbibaodknaaW.PrintWords Go.Proofs.YtdmmbbibaodknaaW.PrintLast

theorem j0_tells (x : B) (s : ByteArray) (n : Int) (hs : s.size ≤ 300) : lodgerlaw02_CrcTells.j0 200000 (x.toNat : Int) s n = some true := by
  have hz : zn n ≤ 100000 := by unfold zn; omega
  simp only [lodgerlaw02_CrcTells.j0]
  rw [pSum s (by omega), Sum_f _ s (by omega) (by omega)]
  simp only [Option.bind_some, if_true]
  rw [pMore x s (by omega), More_f _ x s (by omega) (by omega)]
  simp only [Option.bind_some, if_true]
  rw [pZeros x n, Zeros_f _ x n (by omega)]
  simp only [Option.bind_some, if_true]
  rw [fixed_ok]
  rfl

theorem CrcTells : lodgerlaw02_CrcTells.Pure := by
  intro a0 s n h0 hs _
  obtain ⟨x, rfl⟩ := of_wf a0 h0
  refine ⟨200000, ?_⟩
  have hm : 0 ≤ mn (s.size : Int) 300 ∧ mn (s.size : Int) 300 ≤ s.size ∧ mn (s.size : Int) 300 ≤ 300 := by unfold mn; omega
  have hsz : (s.extract 0 (mn (s.size : Int) 300).toNat).size ≤ 300 := by rw [ByteArray.size_extract]; omega
  unfold lodgerlaw02_CrcTells.f
  rw [if_pos hm.1, if_pos hm.2.1]
  split
  · exact j0_tells x _ _ hsz
  · exact j0_tells x _ _ hsz
end Go.Proofs.Ytdmmbbibaodknaa.Pure
