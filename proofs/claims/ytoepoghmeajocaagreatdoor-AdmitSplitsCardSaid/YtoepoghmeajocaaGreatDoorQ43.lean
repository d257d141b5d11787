/- Part of a proof over a Go program: Ls8. No condition. -/
import Derived.Test.YtoepoghmeajocaaGreatDoorQ17
import Derived.Test.YtoepoghmeajocaaGreatDoorQ18
import Derived.Test.YtoepoghmeajocaaGreatDoorQ19
import Derived.Test.YtoepoghmeajocaaGreatDoorQ20
import Derived.Test.YtoepoghmeajocaaGreatDoorQ21
import Derived.Test.YtoepoghmeajocaaGreatDoorQ22
import Derived.Test.YtoepoghmeajocaaGreatDoorQ23
import Derived.Test.YtoepoghmeajocaaGreatDoorQ24
import Derived.Test.YtoepoghmeajocaaGreatDoorQ25
import Derived.Test.YtoepoghmeajocaaGreatDoorQ26
import Derived.Test.YtoepoghmeajocaaGreatDoorQ27
import Derived.Test.YtoepoghmeajocaaGreatDoorQ28
import Derived.Test.YtoepoghmeajocaaGreatDoorQ29
import Derived.Test.YtoepoghmeajocaaGreatDoorQ30
import Derived.Test.YtoepoghmeajocaaGreatDoorQ31
import Derived.Test.YtoepoghmeajocaaGreatDoorQ32
import Derived.Test.YtoepoghmeajocaaGreatDoorQ33
import Derived.Test.YtoepoghmeajocaaGreatDoorQ34
import Derived.Test.YtoepoghmeajocaaGreatDoorQ35
import Derived.Test.YtoepoghmeajocaaGreatDoorQ36
import Derived.Test.YtoepoghmeajocaaGreatDoorQ38
import Derived.Test.YtoepoghmeajocaaGreatDoorQ39
import Derived.Test.YtoepoghmeajocaaGreatDoorQ40
import Derived.Test.YtoepoghmeajocaaGreatDoorQ41
import Derived.Test.YtoepoghmeajocaaGreatDoorQ42
set_option linter.unnecessarySimpa false
set_option linter.unusedSectionVars false
set_option linter.unusedSimpArgs false
set_option linter.unusedVariables false
set_option maxHeartbeats 4000000
set_option maxRecDepth 100000
namespace Go.Proofs.YtoepoghmeajocaaGreatDoor.Vc
open Go.RowKit
theorem andK (w : Int) (k : Nat) (hk : k < 1000) : 0 ≤ bitsOf .and .i64 w k ∧ bitsOf .and .i64 w k ≤ k := by
  have h : (BitVec.ofInt 64 w &&& BitVec.ofInt 64 (k : Int)).toNat ≤ k := by
    rw [BitVec.toNat_and]
    refine Nat.le_trans Nat.and_le_right ?_
    rw [BitVec.toNat_ofInt]
    omega
  have e : bitsOf .and .i64 w k = IntKind.wrap .i64 ((BitVec.ofInt 64 w &&& BitVec.ofInt 64 (k : Int)).toNat : Int) := rfl
  rw [e, wrapE (by omega) (by omega)]
  omega
/-- Brought into 0..4. -/
theorem mod5 (n : Int) : ∃ k : Int, (IntKind.wrap .i64 (Int.tmod n 5 + 5)).tmod 5 = k ∧ 0 ≤ k ∧ k ≤ 4 := by
  have h1 := Int.tmod_lt_of_pos n (show (0 : Int) < 5 by omega)
  have h2 : -5 < Int.tmod n 5 := by have := Int.lt_tmod_of_pos n (show (0 : Int) < 5 by omega); omega
  rw [wrapE (by omega) (by omega)]
  exact ⟨_, rfl, Int.tmod_nonneg _ (by omega), by have := Int.tmod_lt_of_pos (Int.tmod n 5 + 5) (show (0 : Int) < 5 by omega); omega⟩
theorem run8 (c a b : Int) (hc : 2 ≤ c ∧ c ≤ 6) (ha : 0 ≤ a ∧ a ≤ 3) (hb : 0 ≤ b ∧ b ≤ 1) :
    vc Tryz.prog Q8 (s8 c a b) (F8.post (.p (.bool true))) (fun _ _ => False) (F8.post (.p (.bool true))) := by
  obtain rfl | rfl | rfl | rfl | rfl : c = 2 ∨ c = 3 ∨ c = 4 ∨ c = 5 ∨ c = 6 := by omega
  all_goals obtain rfl | rfl | rfl | rfl : a = 0 ∨ a = 1 ∨ a = 2 ∨ a = 3 := by omega
  all_goals obtain rfl | rfl : b = 0 ∨ b = 1 := by omega
  · exact run_post (envL_ok fun j hj => match j, hj with
      | 0, _ => ad8_2_0_0_0
      | 1, _ => ad8_2_0_0_1
      | j + 2, h => absurd h (by omega)) en8_2_0_0
  · exact run_post (envL_ok fun j hj => match j, hj with
      | 0, _ => ad8_2_0_1_0
      | 1, _ => ad8_2_0_1_1
      | j + 2, h => absurd h (by omega)) en8_2_0_1
  · exact run_post (envL_ok fun j hj => match j, hj with
      | 0, _ => ad8_2_1_0_0
      | 1, _ => ad8_2_1_0_1
      | j + 2, h => absurd h (by omega)) en8_2_1_0
  · exact run_post (envL_ok fun j hj => match j, hj with
      | 0, _ => ad8_2_1_1_0
      | 1, _ => ad8_2_1_1_1
      | j + 2, h => absurd h (by omega)) en8_2_1_1
  · exact run_post (envL_ok fun j hj => match j, hj with
      | 0, _ => ad8_2_2_0_0
      | 1, _ => ad8_2_2_0_1
      | j + 2, h => absurd h (by omega)) en8_2_2_0
  · exact run_post (envL_ok fun j hj => match j, hj with
      | 0, _ => ad8_2_2_1_0
      | 1, _ => ad8_2_2_1_1
      | j + 2, h => absurd h (by omega)) en8_2_2_1
  · exact run_post (envL_ok fun j hj => match j, hj with
      | 0, _ => ad8_2_3_0_0
      | 1, _ => ad8_2_3_0_1
      | j + 2, h => absurd h (by omega)) en8_2_3_0
  · exact run_post (envL_ok fun j hj => match j, hj with
      | 0, _ => ad8_2_3_1_0
      | 1, _ => ad8_2_3_1_1
      | j + 2, h => absurd h (by omega)) en8_2_3_1
  · exact run_post (envL_ok fun j hj => match j, hj with
      | 0, _ => ad8_3_0_0_0
      | 1, _ => ad8_3_0_0_1
      | 2, _ => ad8_3_0_0_2
      | j + 3, h => absurd h (by omega)) en8_3_0_0
  · exact run_post (envL_ok fun j hj => match j, hj with
      | 0, _ => ad8_3_0_1_0
      | 1, _ => ad8_3_0_1_1
      | 2, _ => ad8_3_0_1_2
      | j + 3, h => absurd h (by omega)) en8_3_0_1
  · exact run_post (envL_ok fun j hj => match j, hj with
      | 0, _ => ad8_3_1_0_0
      | 1, _ => ad8_3_1_0_1
      | 2, _ => ad8_3_1_0_2
      | j + 3, h => absurd h (by omega)) en8_3_1_0
  · exact run_post (envL_ok fun j hj => match j, hj with
      | 0, _ => ad8_3_1_1_0
      | 1, _ => ad8_3_1_1_1
      | 2, _ => ad8_3_1_1_2
      | j + 3, h => absurd h (by omega)) en8_3_1_1
  · exact run_post (envL_ok fun j hj => match j, hj with
      | 0, _ => ad8_3_2_0_0
      | 1, _ => ad8_3_2_0_1
      | 2, _ => ad8_3_2_0_2
      | j + 3, h => absurd h (by omega)) en8_3_2_0
  · exact run_post (envL_ok fun j hj => match j, hj with
      | 0, _ => ad8_3_2_1_0
      | 1, _ => ad8_3_2_1_1
      | 2, _ => ad8_3_2_1_2
      | j + 3, h => absurd h (by omega)) en8_3_2_1
  · exact run_post (envL_ok fun j hj => match j, hj with
      | 0, _ => ad8_3_3_0_0
      | 1, _ => ad8_3_3_0_1
      | 2, _ => ad8_3_3_0_2
      | j + 3, h => absurd h (by omega)) en8_3_3_0
  · exact run_post (envL_ok fun j hj => match j, hj with
      | 0, _ => ad8_3_3_1_0
      | 1, _ => ad8_3_3_1_1
      | 2, _ => ad8_3_3_1_2
      | j + 3, h => absurd h (by omega)) en8_3_3_1
  · exact run_post (envL_ok fun j hj => match j, hj with
      | 0, _ => ad8_4_0_0_0
      | 1, _ => ad8_4_0_0_1
      | 2, _ => ad8_4_0_0_2
      | 3, _ => ad8_4_0_0_3
      | j + 4, h => absurd h (by omega)) en8_4_0_0
  · exact run_post (envL_ok fun j hj => match j, hj with
      | 0, _ => ad8_4_0_1_0
      | 1, _ => ad8_4_0_1_1
      | 2, _ => ad8_4_0_1_2
      | 3, _ => ad8_4_0_1_3
      | j + 4, h => absurd h (by omega)) en8_4_0_1
  · exact run_post (envL_ok fun j hj => match j, hj with
      | 0, _ => ad8_4_1_0_0
      | 1, _ => ad8_4_1_0_1
      | 2, _ => ad8_4_1_0_2
      | 3, _ => ad8_4_1_0_3
      | j + 4, h => absurd h (by omega)) en8_4_1_0
  · exact run_post (envL_ok fun j hj => match j, hj with
      | 0, _ => ad8_4_1_1_0
      | 1, _ => ad8_4_1_1_1
      | 2, _ => ad8_4_1_1_2
      | 3, _ => ad8_4_1_1_3
      | j + 4, h => absurd h (by omega)) en8_4_1_1
  · exact run_post (envL_ok fun j hj => match j, hj with
      | 0, _ => ad8_4_2_0_0
      | 1, _ => ad8_4_2_0_1
      | 2, _ => ad8_4_2_0_2
      | 3, _ => ad8_4_2_0_3
      | j + 4, h => absurd h (by omega)) en8_4_2_0
  · exact run_post (envL_ok fun j hj => match j, hj with
      | 0, _ => ad8_4_2_1_0
      | 1, _ => ad8_4_2_1_1
      | 2, _ => ad8_4_2_1_2
      | 3, _ => ad8_4_2_1_3
      | j + 4, h => absurd h (by omega)) en8_4_2_1
  · exact run_post (envL_ok fun j hj => match j, hj with
      | 0, _ => ad8_4_3_0_0
      | 1, _ => ad8_4_3_0_1
      | 2, _ => ad8_4_3_0_2
      | 3, _ => ad8_4_3_0_3
      | j + 4, h => absurd h (by omega)) en8_4_3_0
  · exact run_post (envL_ok fun j hj => match j, hj with
      | 0, _ => ad8_4_3_1_0
      | 1, _ => ad8_4_3_1_1
      | 2, _ => ad8_4_3_1_2
      | 3, _ => ad8_4_3_1_3
      | j + 4, h => absurd h (by omega)) en8_4_3_1
  · exact run_post (envL_ok fun j hj => match j, hj with
      | 0, _ => ad8_5_0_0_0
      | 1, _ => ad8_5_0_0_1
      | 2, _ => ad8_5_0_0_2
      | 3, _ => ad8_5_0_0_3
      | 4, _ => ad8_5_0_0_4
      | j + 5, h => absurd h (by omega)) en8_5_0_0
  · exact run_post (envL_ok fun j hj => match j, hj with
      | 0, _ => ad8_5_0_1_0
      | 1, _ => ad8_5_0_1_1
      | 2, _ => ad8_5_0_1_2
      | 3, _ => ad8_5_0_1_3
      | 4, _ => ad8_5_0_1_4
      | j + 5, h => absurd h (by omega)) en8_5_0_1
  · exact run_post (envL_ok fun j hj => match j, hj with
      | 0, _ => ad8_5_1_0_0
      | 1, _ => ad8_5_1_0_1
      | 2, _ => ad8_5_1_0_2
      | 3, _ => ad8_5_1_0_3
      | 4, _ => ad8_5_1_0_4
      | j + 5, h => absurd h (by omega)) en8_5_1_0
  · exact run_post (envL_ok fun j hj => match j, hj with
      | 0, _ => ad8_5_1_1_0
      | 1, _ => ad8_5_1_1_1
      | 2, _ => ad8_5_1_1_2
      | 3, _ => ad8_5_1_1_3
      | 4, _ => ad8_5_1_1_4
      | j + 5, h => absurd h (by omega)) en8_5_1_1
  · exact run_post (envL_ok fun j hj => match j, hj with
      | 0, _ => ad8_5_2_0_0
      | 1, _ => ad8_5_2_0_1
      | 2, _ => ad8_5_2_0_2
      | 3, _ => ad8_5_2_0_3
      | 4, _ => ad8_5_2_0_4
      | j + 5, h => absurd h (by omega)) en8_5_2_0
  · exact run_post (envL_ok fun j hj => match j, hj with
      | 0, _ => ad8_5_2_1_0
      | 1, _ => ad8_5_2_1_1
      | 2, _ => ad8_5_2_1_2
      | 3, _ => ad8_5_2_1_3
      | 4, _ => ad8_5_2_1_4
      | j + 5, h => absurd h (by omega)) en8_5_2_1
  · exact run_post (envL_ok fun j hj => match j, hj with
      | 0, _ => ad8_5_3_0_0
      | 1, _ => ad8_5_3_0_1
      | 2, _ => ad8_5_3_0_2
      | 3, _ => ad8_5_3_0_3
      | 4, _ => ad8_5_3_0_4
      | j + 5, h => absurd h (by omega)) en8_5_3_0
  · exact run_post (envL_ok fun j hj => match j, hj with
      | 0, _ => ad8_5_3_1_0
      | 1, _ => ad8_5_3_1_1
      | 2, _ => ad8_5_3_1_2
      | 3, _ => ad8_5_3_1_3
      | 4, _ => ad8_5_3_1_4
      | j + 5, h => absurd h (by omega)) en8_5_3_1
  · exact run_post (envL_ok fun j hj => match j, hj with
      | 0, _ => ad8_6_0_0_0
      | 1, _ => ad8_6_0_0_1
      | 2, _ => ad8_6_0_0_2
      | 3, _ => ad8_6_0_0_3
      | 4, _ => ad8_6_0_0_4
      | 5, _ => ad8_6_0_0_5
      | j + 6, h => absurd h (by omega)) en8_6_0_0
  · exact run_post (envL_ok fun j hj => match j, hj with
      | 0, _ => ad8_6_0_1_0
      | 1, _ => ad8_6_0_1_1
      | 2, _ => ad8_6_0_1_2
      | 3, _ => ad8_6_0_1_3
      | 4, _ => ad8_6_0_1_4
      | 5, _ => ad8_6_0_1_5
      | j + 6, h => absurd h (by omega)) en8_6_0_1
  · exact run_post (envL_ok fun j hj => match j, hj with
      | 0, _ => ad8_6_1_0_0
      | 1, _ => ad8_6_1_0_1
      | 2, _ => ad8_6_1_0_2
      | 3, _ => ad8_6_1_0_3
      | 4, _ => ad8_6_1_0_4
      | 5, _ => ad8_6_1_0_5
      | j + 6, h => absurd h (by omega)) en8_6_1_0
  · exact run_post (envL_ok fun j hj => match j, hj with
      | 0, _ => ad8_6_1_1_0
      | 1, _ => ad8_6_1_1_1
      | 2, _ => ad8_6_1_1_2
      | 3, _ => ad8_6_1_1_3
      | 4, _ => ad8_6_1_1_4
      | 5, _ => ad8_6_1_1_5
      | j + 6, h => absurd h (by omega)) en8_6_1_1
  · exact run_post (envL_ok fun j hj => match j, hj with
      | 0, _ => ad8_6_2_0_0
      | 1, _ => ad8_6_2_0_1
      | 2, _ => ad8_6_2_0_2
      | 3, _ => ad8_6_2_0_3
      | 4, _ => ad8_6_2_0_4
      | 5, _ => ad8_6_2_0_5
      | j + 6, h => absurd h (by omega)) en8_6_2_0
  · exact run_post (envL_ok fun j hj => match j, hj with
      | 0, _ => ad8_6_2_1_0
      | 1, _ => ad8_6_2_1_1
      | 2, _ => ad8_6_2_1_2
      | 3, _ => ad8_6_2_1_3
      | 4, _ => ad8_6_2_1_4
      | 5, _ => ad8_6_2_1_5
      | j + 6, h => absurd h (by omega)) en8_6_2_1
  · exact run_post (envL_ok fun j hj => match j, hj with
      | 0, _ => ad8_6_3_0_0
      | 1, _ => ad8_6_3_0_1
      | 2, _ => ad8_6_3_0_2
      | 3, _ => ad8_6_3_0_3
      | 4, _ => ad8_6_3_0_4
      | 5, _ => ad8_6_3_0_5
      | j + 6, h => absurd h (by omega)) en8_6_3_0
  · exact run_post (envL_ok fun j hj => match j, hj with
      | 0, _ => ad8_6_3_1_0
      | 1, _ => ad8_6_3_1_1
      | 2, _ => ad8_6_3_1_2
      | 3, _ => ad8_6_3_1_3
      | 4, _ => ad8_6_3_1_4
      | 5, _ => ad8_6_3_1_5
      | j + 6, h => absurd h (by omega)) en8_6_3_1
theorem rest8 {n0 n1 n2 : Int} {t : List DV} {bx : List (Option Box)} (hs : forget t [6, 7, 16, 17, 18, 19, 20, 21, 22, 23, 24, 25, 26, 27] = (s8 n0 n1 n2).t) (hbx : bx = [none]) (hc : 2 ≤ n0 ∧ n0 ≤ 6) (ha : 0 ≤ n1 ∧ n1 ≤ 3) (hb : 0 ≤ n2 ∧ n2 ≤ 1) :
    ev Tryz.prog R8 ⟨t, bx⟩ (F8.post (.p (.bool true))) (fun _ _ => False) (F8.post (.p (.bool true))) := by
  rw [ev_eq]
  unfold R8
  simp only [vc, fixB, dropB]
  rw [hs, hbx]
  exact run8 n0 n1 n2 hc ha hb
theorem law8 (n a b : Int) : PureCall Tryz.prog 8 [.int .i64 n, .int .i64 a, .int .i64 b] (.p (.bool true)) := by
  have hbeg := begunR
  obtain ⟨k, hk, hk0, hk4⟩ := mod5 n
  have ha : 0 ≤ bitsOf .and .i64 a 3 ∧ bitsOf .and .i64 a 3 ≤ 3 := andK a 3 (by omega)
  have hb : 0 ≤ bitsOf .and .i64 b 1 ∧ bitsOf .and .i64 b 1 ≤ 1 := andK b 1 (by omega)
  have key := @rest8
  refine Fn.run k8 rfl ?_
  generalize Tryz.prog = P at *
  (repeat' ((conv => whnf); first | exact trivial | with_reducible refine zX ?_ | refine ⟨rfl, ?_⟩ | refine ⟨_, rfl, ?_⟩ | with_reducible refine zP ?_ | with_reducible refine zL ?_ | refine ⟨fun _ => ?_, fun _ => ?_⟩ | refine zn ?_ | refine zb rfl ?_ | refine zX ?_ | refine zo rfl ?_ | refine zs ?_ | intro _)); all_goals (try (conv => whnf))
  rw [hk, wrapE (n := 2 + k) (by omega) (by omega)]
  exact key rfl rfl (by omega) ha hb
end Go.Proofs.YtoepoghmeajocaaGreatDoor.Vc
