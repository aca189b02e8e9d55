import Derived.Test.YteedjhoffjkhmaaDoorQP
import Derived.Test.YteedjhoffjkhmaaDoorPTx0
import Derived.Test.YteedjhoffjkhmaaDoorPTx3
import Derived.Test.YteedjhoffjkhmaaDoorPTx17
import Derived.Test.YteedjhoffjkhmaaDoorPTx6
import Derived.Test.YteedjhoffjkhmaaDoorPTx7
import Derived.Test.YteedjhoffjkhmaaDoorPTx11
import Derived.Test.YteedjhoffjkhmaaDoorPTx2
namespace Go.Proofs.YteedjhoffjkhmaaDoor.Q
open Go.RowKit Go.Proofs.YteedjhoffjkhmaaDoor.PT Go.Proofs.YteedjhoffjkhmaaDoorW.PrintWords Go.Proofs.YteedjhoffjkhmaaDoorW.PrintLast Go.Proofs.YteedjhoffjkhmaaDoorW.PrintMore
set_option linter.unusedVariables false
set_option linter.unusedSimpArgs false
theorem byte_of (c : UInt8) : UInt8.ofNat ((c.toNat : Int)).toNat = c := by simp
theorem addAll_cons (i : Nat) (x : S37) (t : List S37) : addAll i (x :: t) = addT i x ++ addAll (i + 1) t := rfl
theorem blk_stop (c : UInt8) (T : List UInt8) (a l h : Nat) (h4 : blankN c.toNat = false) (h5 : ¬ (c.toNat = 47 ∧ T.head? = some 47)) : blk false (c :: T) a l h = (a, l, h) := by
  have h10 : ¬ c.toNat = 10 := fun e => by simp [blankN, e] at h4
  have hib : isBlank c = false := by rw [blank_isBlank c h10]; exact h4
  unfold blk
  rw [if_neg h10, if_neg (by simp), if_neg (by simp [hib]), if_neg h5]
theorem blk_32 (L : List UInt8) (a l h : Nat) : blk false (32 :: L) a l h = blk false L (a + 1) l h := by
  conv => lhs; unfold blk
  rw [if_neg (by decide), if_neg (by simp), if_pos (by decide)]
theorem stop_32 (L : List UInt8) : stop0 (32 :: L) = sh 1 (stop0 L) := stop_go (c := 32) (t := L) (st := 0) (n := 0) (st' := 0) (n' := 1) rfl |>.trans (by rw [stop_n])
theorem scanV_ok {s : ByteArray} (hs : s.size ≤ 65536) (h : stop0 s.data.toList = none) : scanV s = (toksF s (s.size + 1) 0 1 0, 0, 0, 0) := by
  unfold scanV; rw [if_neg (by omega), h]
end Go.Proofs.YteedjhoffjkhmaaDoor.Q
