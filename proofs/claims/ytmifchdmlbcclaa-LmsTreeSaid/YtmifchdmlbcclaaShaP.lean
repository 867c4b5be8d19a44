/- The program's digest: its constants. -/
import Derived.Test.YtmifchdmlbcclaaShaR
namespace Go.Proofs.Ytmifchdmlbcclaa
open Go.RowKit

set_option maxRecDepth 100000 in
set_option maxHeartbeats 1000000 in
theorem constants_any (w : World) : Calls Try.prog 85 #[] w fun e w' => e = .returned (.agg (uws shaK).toArray) ∧ Pure w w' := by
  have HK := Lib.hid shaKI_val
  have hkl : (uws shaK).length = 64 := rfl
  have hk1 := uws_one shaK
  generalize uws shaK = K at HK hkl hk1
  have HK1 := Lib.hid hk1; clear hk1
  have hz64 : ∀ l : List Value, l = uws (List.replicate 64 0) → (Try.prog.info? 127).bind (·.zero) = some (.agg l.toArray) := fun l e => by rw [e]; exact zero64
  obtain ⟨Z, hZ⟩ : ∃ Z, Z = uws (List.replicate 64 0) := ⟨_, rfl⟩
  have hZl : Z.length = 64 := by rw [hZ]; rfl
  have HZ64 := Lib.hid (hz64 Z hZ); clear hz64 hZ
  have hsz64 : (Try.prog.info? 127).map (·.size) = some 64 := by kernel_rfl
  have HS64 := Lib.hid hsz64; clear hsz64
  go_enter Try.func85, Try.ntmps85
  go_wp2_with (refine wpList_allocZ rfl 127 rfl Z HZ64.out ?_)
  intro g0 w1 e0 c0 t0 s0
  have l0 : w.heap.size ≤ g0 := by omega
  clear e0 s0
  go_wp2_with (first | (refine wpList_buildFlatArr rfl 127 107 64 _ rfl .u32 shaKI Try.underlying127 (by kernel_rfl) (by kernel_rfl) (by kernel_rfl) ?_; rw [HK.out]) | (refine wpList_store_blk rfl 127 _ _ rfl g0 _ K _ rfl rfl c0 (by rw [List.size_toArray]; omega) (by rw [hkl]; exact HS64.out) HK1.out ?_))
  intro w2 c2 t2 _
  have hc := Lib.hid c2; clear c2
  have hT : Pure w w2 := t0.trans t2 fun i hi e => by omega
  have HT := Lib.hid hT; clear hT t2 t0
  go_wp2
  refine bodyPost_ret (v := .agg K.toArray) (results_cell_row Try.results85 _ _ g0 _ K.toArray _ _ rfl hc.out Try.underlying127 rfl (by rw [List.size_toArray, hkl]; exact HS64.out)) rfl ⟨rfl, HT.out⟩
end Go.Proofs.Ytmifchdmlbcclaa
