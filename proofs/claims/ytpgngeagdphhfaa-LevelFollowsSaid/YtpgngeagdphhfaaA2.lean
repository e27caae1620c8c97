-- Written by a program of the session, out of the translation. Lean checks it.
import Derived.Test.YtpgngeagdphhfaaA0
namespace Go.Ab
set_option linter.unusedVariables false
set_option maxRecDepth 100000
/-! keyhole/level.New -/
def A_level_New : AFunc := ⟨1, [(.tmp 2, .fz), (.tmp 3, .fz)], .seq (.region [⟨(some 1), .box 3 true (.t 0), none, none⟩,
  ⟨(some 2), .mov (.c (.fz (.nilp))), none, none⟩,
  ⟨(some 3), .mov (.c (.fz (.int .i64 0))), none, some (.int .i64)⟩])
 (.seq (.seq (.region [⟨(some 8), .fadr 0 (.t 1), none, none⟩,
    ⟨(some 9), .load 1 false (.t 8), none, none⟩,
    ⟨(some 10), .call N_level_named [((.t 9), .fz)] [.fz], none, some .bool⟩,
    ⟨(some 11), .notB (.t 10), none, some .bool⟩])
   (.cond (.t 11) (.seq (.region [⟨(some 2), .mov (.c (.fz (.nilp))), none, none⟩,
      ⟨(some 3), .mov (.c (.fz (.int .i64 10))), none, some (.int .i64)⟩])
     (.ret))
    (.skip)))
  (.seq (.region [⟨(some 12), .fadr 0 (.t 1), none, none⟩,
    ⟨(some 13), .load 1 false (.t 12), none, none⟩,
    ⟨(some 14), .len (.sl 1 false) (.t 13), none, some (.int .i64)⟩,
    ⟨(some 4), .mov (.t 14), none, some (.int .i64)⟩])
   (.seq (.region [⟨(some 16), .mov (.t 4), none, some (.int .i64)⟩,
     ⟨(some 17), .fadr 1 (.t 1), none, none⟩,
     ⟨(some 18), .load 1 false (.t 17), none, none⟩,
     ⟨(some 19), .call N_level_laid [((.t 16), .fz), ((.t 18), .fz)] [.fz, .fz], none, none⟩,
     ⟨(some 15), .mov (.t 19), none, none⟩,
     ⟨(some 20), .extract (.t 15) 0, none, none⟩,
     ⟨(some 21), .extract (.t 15) 1, none, some .bool⟩,
     ⟨(some 5), .alloc 64 true (.fz (.ag [.bool false, .bool false, .bool false, .bool false, .bool false, .bool false, .bool false, .bool false, .bool false, .bool false, .bool false, .bool false, .bool false, .bool false, .bool false, .bool false, .bool false, .bool false, .bool false, .bool false, .bool false, .bool false, .bool false, .bool false, .bool false, .bool false, .bool false, .bool false, .bool false, .bool false, .bool false, .bool false, .bool false, .bool false, .bool false, .bool false, .bool false, .bool false, .bool false, .bool false, .bool false, .bool false, .bool false, .bool false, .bool false, .bool false, .bool false, .bool false, .bool false, .bool false, .bool false, .bool false, .bool false, .bool false, .bool false, .bool false, .bool false, .bool false, .bool false, .bool false, .bool false, .bool false, .bool false, .bool false])), none, none⟩,
     ⟨none, .store 64 true (.t 5) (.t 20), none, none⟩,
     ⟨(some 6), .mov (.t 21), none, some .bool⟩])
    (.seq (.seq (.region [⟨(some 22), .mov (.t 6), none, some .bool⟩,
       ⟨(some 23), .notB (.t 22), none, some .bool⟩])
      (.cond (.t 23) (.seq (.region [⟨(some 2), .mov (.c (.fz (.nilp))), none, none⟩,
         ⟨(some 3), .mov (.c (.fz (.int .i64 2))), none, some (.int .i64)⟩])
        (.ret))
       (.skip)))
     (.seq (.draws [⟨⟨(some 24), .buildSl 1 false 0 (.str ⟨#[]⟩) [], none, none⟩, []⟩,
       ⟨⟨(some 25), .fadr 0 (.t 1), none, none⟩, []⟩,
       ⟨⟨(some 26), .load 1 false (.t 25), none, none⟩, [1]⟩,
       ⟨⟨(some 27), .append 1 false 16 false (.t 24) (.t 26), none, none⟩, [0, 2]⟩,
       ⟨⟨(some 28), .load 64 true (.t 5), none, none⟩, []⟩,
       ⟨⟨(some 29), .mov (.t 4), none, some (.int .i64)⟩, []⟩,
       ⟨⟨(some 30), .call N_level_closed [((.t 28), .fz), ((.t 29), .fz)] [.fz], none, none⟩, [4, 5, 3]⟩,
       ⟨⟨(some 31), .build 195 [.nils, .fz (.bool false), .fz (.bool false), .fz (.bool false), .fz (.bool false), .fz (.bool false), .fz (.bool false), .fz (.bool false), .fz (.bool false), .fz (.bool false), .fz (.bool false), .fz (.bool false), .fz (.bool false), .fz (.bool false), .fz (.bool false), .fz (.bool false), .fz (.bool false), .fz (.bool false), .fz (.bool false), .fz (.bool false), .fz (.bool false), .fz (.bool false), .fz (.bool false), .fz (.bool false), .fz (.bool false), .fz (.bool false), .fz (.bool false), .fz (.bool false), .fz (.bool false), .fz (.bool false), .fz (.bool false), .fz (.bool false), .fz (.bool false), .fz (.bool false), .fz (.bool false), .fz (.bool false), .fz (.bool false), .fz (.bool false), .fz (.bool false), .fz (.bool false), .fz (.bool false), .fz (.bool false), .fz (.bool false), .fz (.bool false), .fz (.bool false), .fz (.bool false), .fz (.bool false), .fz (.bool false), .fz (.bool false), .fz (.bool false), .fz (.bool false), .fz (.bool false), .fz (.bool false), .fz (.bool false), .fz (.bool false), .fz (.bool false), .fz (.bool false), .fz (.bool false), .fz (.bool false), .fz (.bool false), .fz (.bool false), .fz (.bool false), .fz (.bool false), .fz (.bool false), .fz (.bool false), .fz (.int .i64 0), .fz (.int .i64 0), .fz (.int .i64 0), .fz (.int .i64 0), .fz (.int .i64 0), .fz (.int .i64 0), .fz (.int .i64 0), .fz (.int .i64 0), .fz (.int .i64 0), .fz (.int .i64 0), .fz (.int .i64 0), .fz (.int .i64 0), .fz (.int .i64 0), .fz (.int .i64 0), .fz (.int .i64 0), .fz (.int .i64 0), .fz (.int .i64 0), .fz (.int .i64 0), .fz (.int .i64 0), .fz (.int .i64 0), .fz (.int .i64 0), .fz (.int .i64 0), .fz (.int .i64 0), .fz (.int .i64 0), .fz (.int .i64 0), .fz (.int .i64 0), .fz (.int .i64 0), .fz (.int .i64 0), .fz (.int .i64 0), .fz (.int .i64 0), .fz (.int .i64 0), .fz (.int .i64 0), .fz (.int .i64 0), .fz (.int .i64 0), .fz (.int .i64 0), .fz (.int .i64 0), .fz (.int .i64 0), .fz (.int .i64 0), .fz (.int .i64 0), .fz (.int .i64 0), .fz (.int .i64 0), .fz (.int .i64 0), .fz (.int .i64 0), .fz (.int .i64 0), .fz (.int .i64 0), .fz (.int .i64 0), .fz (.int .i64 0), .fz (.int .i64 0), .fz (.int .i64 0), .fz (.int .i64 0), .fz (.int .i64 0), .fz (.int .i64 0), .fz (.int .i64 0), .fz (.int .i64 0), .fz (.int .i64 0), .fz (.int .i64 0), .fz (.int .i64 0), .fz (.int .i64 0), .fz (.int .i64 0), .fz (.int .i64 0), .fz (.int .i64 0), .fz (.int .i64 0), .fz (.int .i64 0), .fz (.int .i64 0), .fz (.int .i64 0), .fz (.int .i64 0), .fz (.int .i64 0), .fz (.int .i64 0), .fz (.int .i64 0), .fz (.int .i64 0), .fz (.int .i64 0), .fz (.int .i64 0), .fz (.int .i64 0), .fz (.int .i64 0), .fz (.int .i64 0), .fz (.int .i64 0), .fz (.int .i64 0), .fz (.int .i64 0), .fz (.int .i64 0), .fz (.int .i64 0), .fz (.int .i64 0), .fz (.int .i64 0), .fz (.int .i64 0), .fz (.int .i64 0), .fz (.int .i64 0), .fz (.int .i64 0), .fz (.int .i64 0), .fz (.int .i64 0), .fz (.int .i64 0), .fz (.int .i64 0), .fz (.int .i64 0), .fz (.int .i64 0), .fz (.int .i64 0), .fz (.int .i64 0), .fz (.int .i64 0), .fz (.int .i64 0), .fz (.int .i64 0), .fz (.int .i64 0), .fz (.int .i64 0), .fz (.int .i64 0), .fz (.int .i64 0), .fz (.int .i64 0), .fz (.int .i64 0), .fz (.int .i64 0), .fz (.int .i64 0), .fz (.int .i64 0), .fz (.int .i64 0), .fz (.int .i64 0), .fz (.int .i64 0), .fz (.int .i64 0), .fz (.int .i64 0), .fz (.int .i64 0), .fz (.int .i64 0), .fz (.int .i64 0), .fz (.int .i64 0), .fz (.int .i64 0), .fz (.int .i64 0), .fz (.int .i64 0), .fz (.int .i64 0), .fz (.int .i64 0), .fz (.int .i64 0), .fz (.int .i64 0), .fz (.int .i64 0), .fz (.int .i64 0), .fz (.int .i64 0), .fz (.int .i64 0), .fz (.int .i64 0), .fz (.int .i64 0), .fz (.int .i64 0), .fz (.int .i64 0)] [(0, 1, false, (.t 27)), (1, 64, true, (.t 30))], none, none⟩, [3, 6]⟩,
       ⟨⟨(some 32), .box 195 true (.t 31), none, none⟩, [7]⟩,
       ⟨⟨(some 7), .mov (.t 32), none, none⟩, [8, 6, 0, 1, 2, 3, 4, 5, 6, 7, 8]⟩])
      (.seq (.seq (.region [⟨(some 33), .mov (.t 7), none, none⟩,
         ⟨(some 34), .nilck (.t 33), none, none⟩,
         ⟨(some 35), .fadr 1 (.t 34), none, none⟩,
         ⟨(some 36), .load 64 true (.t 35), none, none⟩,
         ⟨(some 37), .mov (.t 4), none, some (.int .i64)⟩,
         ⟨(some 38), .call N_level_twisted [((.t 36), .fz), ((.t 37), .fz)] [.fz], none, some .bool⟩,
         ⟨(some 39), .mov (.t 38), none, some .bool⟩,
         ⟨(some 40), .mov (.t 7), (some (39, false)), none⟩,
         ⟨(some 41), .mov (.t 4), (some (39, false)), some (.int .i64)⟩,
         ⟨(some 42), .call N_level_Lattice_fill [((.t 40), .pv 195 true), ((.t 41), .fz)] [.fz], (some (39, false)), some .bool⟩,
         ⟨(some 43), .notB (.t 42), (some (39, false)), some .bool⟩,
         ⟨(some 44), .pick (.t 39) (.c (.fz (.bool true))) (.t 43), none, some .bool⟩])
        (.cond (.t 44) (.seq (.region [⟨(some 2), .mov (.c (.fz (.nilp))), none, none⟩,
           ⟨(some 3), .mov (.c (.fz (.int .i64 9))), none, some (.int .i64)⟩])
          (.ret))
         (.skip)))
       (.seq (.region [⟨(some 45), .mov (.t 7), none, none⟩,
         ⟨(some 2), .mov (.t 45), none, none⟩,
         ⟨(some 3), .mov (.c (.fz (.int .i64 0))), none, some (.int .i64)⟩])
        (.ret))))))))⟩
theorem E_level_New (R : Orc) (k : Nat) (w : Bool) (a0_0 : List FV) (a0_1 : List FV) (a0_2 : List FV) : callL R k w A_level_New [.fz (FV.ag [(FV.sl a0_0), (FV.sl a0_1), (FV.sl a0_2)])] = onR (R N_level_named [.fz (FV.sl a0_0)]) fun r0 => when (List.isEmpty r0.2 && allF [.fz] r0.1) (when (FV.isBool (TV.toF (List.getD r0.1 0 TV.em))) (ifB (!(FV.toBool (TV.toF (List.getD r0.1 0 TV.em))))
  (some ([.fz FV.nilp, .fz (FV.int .i64 10)], []))
  (onR (R N_level_laid [.fz (FV.int .i64 (List.length a0_0 : Int)), .fz (FV.sl a0_1)]) fun r1 => when (List.isEmpty r1.2 && allF [.fz, .fz] r1.1) (when (FV.isBool (TV.toF (List.getD r1.1 1 TV.em))) (when (FV.fits 64 true (TV.toF (List.getD r1.1 0 TV.em))) (ifB (!(FV.toBool (TV.toF (List.getD r1.1 1 TV.em))))
   (some ([.fz FV.nilp, .fz (FV.int .i64 2)], []))
   (when (List.all a0_0 (FV.fits 1 false)) (when (decide (((0 : Nat) + List.length a0_0) * 16 ≤ roomy) && decide ((0 : Nat) + List.length a0_0 ≤ roomy)) (onR (R N_level_closed [.fz (TV.toF (List.getD r1.1 0 TV.em)), .fz (FV.int .i64 (List.length a0_0 : Int))]) fun r2 => when (List.isEmpty r2.2 && allF [.fz] r2.1) (when (FV.isAg 64 (TV.toF (List.getD r2.1 0 TV.em))) (onR (R N_level_twisted [.fz (FV.ag [(FV.cell (TV.toF (List.getD r2.1 0 TV.em)) 0), (FV.cell (TV.toF (List.getD r2.1 0 TV.em)) 1), (FV.cell (TV.toF (List.getD r2.1 0 TV.em)) 2), (FV.cell (TV.toF (List.getD r2.1 0 TV.em)) 3), (FV.cell (TV.toF (List.getD r2.1 0 TV.em)) 4), (FV.cell (TV.toF (List.getD r2.1 0 TV.em)) 5), (FV.cell (TV.toF (List.getD r2.1 0 TV.em)) 6), (FV.cell (TV.toF (List.getD r2.1 0 TV.em)) 7), (FV.cell (TV.toF (List.getD r2.1 0 TV.em)) 8), (FV.cell (TV.toF (List.getD r2.1 0 TV.em)) 9), (FV.cell (TV.toF (List.getD r2.1 0 TV.em)) 10), (FV.cell (TV.toF (List.getD r2.1 0 TV.em)) 11), (FV.cell (TV.toF (List.getD r2.1 0 TV.em)) 12), (FV.cell (TV.toF (List.getD r2.1 0 TV.em)) 13), (FV.cell (TV.toF (List.getD r2.1 0 TV.em)) 14), (FV.cell (TV.toF (List.getD r2.1 0 TV.em)) 15), (FV.cell (TV.toF (List.getD r2.1 0 TV.em)) 16), (FV.cell (TV.toF (List.getD r2.1 0 TV.em)) 17), (FV.cell (TV.toF (List.getD r2.1 0 TV.em)) 18), (FV.cell (TV.toF (List.getD r2.1 0 TV.em)) 19), (FV.cell (TV.toF (List.getD r2.1 0 TV.em)) 20), (FV.cell (TV.toF (List.getD r2.1 0 TV.em)) 21), (FV.cell (TV.toF (List.getD r2.1 0 TV.em)) 22), (FV.cell (TV.toF (List.getD r2.1 0 TV.em)) 23), (FV.cell (TV.toF (List.getD r2.1 0 TV.em)) 24), (FV.cell (TV.toF (List.getD r2.1 0 TV.em)) 25), (FV.cell (TV.toF (List.getD r2.1 0 TV.em)) 26), (FV.cell (TV.toF (List.getD r2.1 0 TV.em)) 27), (FV.cell (TV.toF (List.getD r2.1 0 TV.em)) 28), (FV.cell (TV.toF (List.getD r2.1 0 TV.em)) 29), (FV.cell (TV.toF (List.getD r2.1 0 TV.em)) 30), (FV.cell (TV.toF (List.getD r2.1 0 TV.em)) 31), (FV.cell (TV.toF (List.getD r2.1 0 TV.em)) 32), (FV.cell (TV.toF (List.getD r2.1 0 TV.em)) 33), (FV.cell (TV.toF (List.getD r2.1 0 TV.em)) 34), (FV.cell (TV.toF (List.getD r2.1 0 TV.em)) 35), (FV.cell (TV.toF (List.getD r2.1 0 TV.em)) 36), (FV.cell (TV.toF (List.getD r2.1 0 TV.em)) 37), (FV.cell (TV.toF (List.getD r2.1 0 TV.em)) 38), (FV.cell (TV.toF (List.getD r2.1 0 TV.em)) 39), (FV.cell (TV.toF (List.getD r2.1 0 TV.em)) 40), (FV.cell (TV.toF (List.getD r2.1 0 TV.em)) 41), (FV.cell (TV.toF (List.getD r2.1 0 TV.em)) 42), (FV.cell (TV.toF (List.getD r2.1 0 TV.em)) 43), (FV.cell (TV.toF (List.getD r2.1 0 TV.em)) 44), (FV.cell (TV.toF (List.getD r2.1 0 TV.em)) 45), (FV.cell (TV.toF (List.getD r2.1 0 TV.em)) 46), (FV.cell (TV.toF (List.getD r2.1 0 TV.em)) 47), (FV.cell (TV.toF (List.getD r2.1 0 TV.em)) 48), (FV.cell (TV.toF (List.getD r2.1 0 TV.em)) 49), (FV.cell (TV.toF (List.getD r2.1 0 TV.em)) 50), (FV.cell (TV.toF (List.getD r2.1 0 TV.em)) 51), (FV.cell (TV.toF (List.getD r2.1 0 TV.em)) 52), (FV.cell (TV.toF (List.getD r2.1 0 TV.em)) 53), (FV.cell (TV.toF (List.getD r2.1 0 TV.em)) 54), (FV.cell (TV.toF (List.getD r2.1 0 TV.em)) 55), (FV.cell (TV.toF (List.getD r2.1 0 TV.em)) 56), (FV.cell (TV.toF (List.getD r2.1 0 TV.em)) 57), (FV.cell (TV.toF (List.getD r2.1 0 TV.em)) 58), (FV.cell (TV.toF (List.getD r2.1 0 TV.em)) 59), (FV.cell (TV.toF (List.getD r2.1 0 TV.em)) 60), (FV.cell (TV.toF (List.getD r2.1 0 TV.em)) 61), (FV.cell (TV.toF (List.getD r2.1 0 TV.em)) 62), (FV.cell (TV.toF (List.getD r2.1 0 TV.em)) 63)]), .fz (FV.int .i64 (List.length a0_0 : Int))]) fun r3 => when (List.isEmpty r3.2 && allF [.fz] r3.1) (when (FV.isBool (TV.toF (List.getD r3.1 0 TV.em))) (ifB (FV.toBool (TV.toF (List.getD r3.1 0 TV.em)))
    (some ([.fz FV.nilp, .fz (FV.int .i64 9)], []))
    (onR (R N_level_Lattice_fill [.pv 195 true (.fz (FV.ag [(FV.sl a0_0), (FV.cell (TV.toF (List.getD r2.1 0 TV.em)) 0), (FV.cell (TV.toF (List.getD r2.1 0 TV.em)) 1), (FV.cell (TV.toF (List.getD r2.1 0 TV.em)) 2), (FV.cell (TV.toF (List.getD r2.1 0 TV.em)) 3), (FV.cell (TV.toF (List.getD r2.1 0 TV.em)) 4), (FV.cell (TV.toF (List.getD r2.1 0 TV.em)) 5), (FV.cell (TV.toF (List.getD r2.1 0 TV.em)) 6), (FV.cell (TV.toF (List.getD r2.1 0 TV.em)) 7), (FV.cell (TV.toF (List.getD r2.1 0 TV.em)) 8), (FV.cell (TV.toF (List.getD r2.1 0 TV.em)) 9), (FV.cell (TV.toF (List.getD r2.1 0 TV.em)) 10), (FV.cell (TV.toF (List.getD r2.1 0 TV.em)) 11), (FV.cell (TV.toF (List.getD r2.1 0 TV.em)) 12), (FV.cell (TV.toF (List.getD r2.1 0 TV.em)) 13), (FV.cell (TV.toF (List.getD r2.1 0 TV.em)) 14), (FV.cell (TV.toF (List.getD r2.1 0 TV.em)) 15), (FV.cell (TV.toF (List.getD r2.1 0 TV.em)) 16), (FV.cell (TV.toF (List.getD r2.1 0 TV.em)) 17), (FV.cell (TV.toF (List.getD r2.1 0 TV.em)) 18), (FV.cell (TV.toF (List.getD r2.1 0 TV.em)) 19), (FV.cell (TV.toF (List.getD r2.1 0 TV.em)) 20), (FV.cell (TV.toF (List.getD r2.1 0 TV.em)) 21), (FV.cell (TV.toF (List.getD r2.1 0 TV.em)) 22), (FV.cell (TV.toF (List.getD r2.1 0 TV.em)) 23), (FV.cell (TV.toF (List.getD r2.1 0 TV.em)) 24), (FV.cell (TV.toF (List.getD r2.1 0 TV.em)) 25), (FV.cell (TV.toF (List.getD r2.1 0 TV.em)) 26), (FV.cell (TV.toF (List.getD r2.1 0 TV.em)) 27), (FV.cell (TV.toF (List.getD r2.1 0 TV.em)) 28), (FV.cell (TV.toF (List.getD r2.1 0 TV.em)) 29), (FV.cell (TV.toF (List.getD r2.1 0 TV.em)) 30), (FV.cell (TV.toF (List.getD r2.1 0 TV.em)) 31), (FV.cell (TV.toF (List.getD r2.1 0 TV.em)) 32), (FV.cell (TV.toF (List.getD r2.1 0 TV.em)) 33), (FV.cell (TV.toF (List.getD r2.1 0 TV.em)) 34), (FV.cell (TV.toF (List.getD r2.1 0 TV.em)) 35), (FV.cell (TV.toF (List.getD r2.1 0 TV.em)) 36), (FV.cell (TV.toF (List.getD r2.1 0 TV.em)) 37), (FV.cell (TV.toF (List.getD r2.1 0 TV.em)) 38), (FV.cell (TV.toF (List.getD r2.1 0 TV.em)) 39), (FV.cell (TV.toF (List.getD r2.1 0 TV.em)) 40), (FV.cell (TV.toF (List.getD r2.1 0 TV.em)) 41), (FV.cell (TV.toF (List.getD r2.1 0 TV.em)) 42), (FV.cell (TV.toF (List.getD r2.1 0 TV.em)) 43), (FV.cell (TV.toF (List.getD r2.1 0 TV.em)) 44), (FV.cell (TV.toF (List.getD r2.1 0 TV.em)) 45), (FV.cell (TV.toF (List.getD r2.1 0 TV.em)) 46), (FV.cell (TV.toF (List.getD r2.1 0 TV.em)) 47), (FV.cell (TV.toF (List.getD r2.1 0 TV.em)) 48), (FV.cell (TV.toF (List.getD r2.1 0 TV.em)) 49), (FV.cell (TV.toF (List.getD r2.1 0 TV.em)) 50), (FV.cell (TV.toF (List.getD r2.1 0 TV.em)) 51), (FV.cell (TV.toF (List.getD r2.1 0 TV.em)) 52), (FV.cell (TV.toF (List.getD r2.1 0 TV.em)) 53), (FV.cell (TV.toF (List.getD r2.1 0 TV.em)) 54), (FV.cell (TV.toF (List.getD r2.1 0 TV.em)) 55), (FV.cell (TV.toF (List.getD r2.1 0 TV.em)) 56), (FV.cell (TV.toF (List.getD r2.1 0 TV.em)) 57), (FV.cell (TV.toF (List.getD r2.1 0 TV.em)) 58), (FV.cell (TV.toF (List.getD r2.1 0 TV.em)) 59), (FV.cell (TV.toF (List.getD r2.1 0 TV.em)) 60), (FV.cell (TV.toF (List.getD r2.1 0 TV.em)) 61), (FV.cell (TV.toF (List.getD r2.1 0 TV.em)) 62), (FV.cell (TV.toF (List.getD r2.1 0 TV.em)) 63), (FV.int .i64 0), (FV.int .i64 0), (FV.int .i64 0), (FV.int .i64 0), (FV.int .i64 0), (FV.int .i64 0), (FV.int .i64 0), (FV.int .i64 0), (FV.int .i64 0), (FV.int .i64 0), (FV.int .i64 0), (FV.int .i64 0), (FV.int .i64 0), (FV.int .i64 0), (FV.int .i64 0), (FV.int .i64 0), (FV.int .i64 0), (FV.int .i64 0), (FV.int .i64 0), (FV.int .i64 0), (FV.int .i64 0), (FV.int .i64 0), (FV.int .i64 0), (FV.int .i64 0), (FV.int .i64 0), (FV.int .i64 0), (FV.int .i64 0), (FV.int .i64 0), (FV.int .i64 0), (FV.int .i64 0), (FV.int .i64 0), (FV.int .i64 0), (FV.int .i64 0), (FV.int .i64 0), (FV.int .i64 0), (FV.int .i64 0), (FV.int .i64 0), (FV.int .i64 0), (FV.int .i64 0), (FV.int .i64 0), (FV.int .i64 0), (FV.int .i64 0), (FV.int .i64 0), (FV.int .i64 0), (FV.int .i64 0), (FV.int .i64 0), (FV.int .i64 0), (FV.int .i64 0), (FV.int .i64 0), (FV.int .i64 0), (FV.int .i64 0), (FV.int .i64 0), (FV.int .i64 0), (FV.int .i64 0), (FV.int .i64 0), (FV.int .i64 0), (FV.int .i64 0), (FV.int .i64 0), (FV.int .i64 0), (FV.int .i64 0), (FV.int .i64 0), (FV.int .i64 0), (FV.int .i64 0), (FV.int .i64 0), (FV.int .i64 0), (FV.int .i64 0), (FV.int .i64 0), (FV.int .i64 0), (FV.int .i64 0), (FV.int .i64 0), (FV.int .i64 0), (FV.int .i64 0), (FV.int .i64 0), (FV.int .i64 0), (FV.int .i64 0), (FV.int .i64 0), (FV.int .i64 0), (FV.int .i64 0), (FV.int .i64 0), (FV.int .i64 0), (FV.int .i64 0), (FV.int .i64 0), (FV.int .i64 0), (FV.int .i64 0), (FV.int .i64 0), (FV.int .i64 0), (FV.int .i64 0), (FV.int .i64 0), (FV.int .i64 0), (FV.int .i64 0), (FV.int .i64 0), (FV.int .i64 0), (FV.int .i64 0), (FV.int .i64 0), (FV.int .i64 0), (FV.int .i64 0), (FV.int .i64 0), (FV.int .i64 0), (FV.int .i64 0), (FV.int .i64 0), (FV.int .i64 0), (FV.int .i64 0), (FV.int .i64 0), (FV.int .i64 0), (FV.int .i64 0), (FV.int .i64 0), (FV.int .i64 0), (FV.int .i64 0), (FV.int .i64 0), (FV.int .i64 0), (FV.int .i64 0), (FV.int .i64 0), (FV.int .i64 0), (FV.int .i64 0), (FV.int .i64 0), (FV.int .i64 0), (FV.int .i64 0), (FV.int .i64 0), (FV.int .i64 0), (FV.int .i64 0), (FV.int .i64 0), (FV.int .i64 0), (FV.int .i64 0), (FV.int .i64 0), (FV.int .i64 0), (FV.int .i64 0), (FV.int .i64 0), (FV.int .i64 0), (FV.int .i64 0), (FV.int .i64 0)])), .fz (FV.int .i64 (List.length a0_0 : Int))]) fun r4 => when (List.length r4.2 == 1 && (List.all r4.2 LV.isFz && List.length r4.1 == 1)) (when (TV.isF (List.getD r4.1 0 TV.em)) (when (FV.isBool (TV.toF (List.getD r4.1 0 TV.em))) (ifB (!(FV.toBool (TV.toF (List.getD r4.1 0 TV.em))))
     (some ([.fz FV.nilp, .fz (FV.int .i64 9)], []))
     (some ([.fz (FV.pt 195 true (LV.toFz (List.getD r4.2 0 LV.nils)) 0), .fz (FV.int .i64 0)], []))))))))))))))))))) := by kernel_rfl
/-! keyhole/keyholeref01.Check -/
def A_ref01_Check_b1 : ACode := .seq (.seq (.region [⟨(some 26), .mov (.t 4), none, some (.int .i64)⟩,
   ⟨(some 27), .mov (.t 3), none, some (.int .i64)⟩,
   ⟨(some 28), .binI .lss .i64 (.t 26) (.t 27), none, some .bool⟩])
  (.cond (.t 28) (.skip)
   (.exit 2)))
 (.seq (.block 3 (.seq (.draws [⟨⟨(some 31), .fadr 0 (.t 1), none, none⟩, []⟩,
     ⟨⟨(some 32), .load 1 false (.t 31), none, none⟩, [0]⟩,
     ⟨⟨(some 33), .mov (.t 3), none, some (.int .i64)⟩, []⟩,
     ⟨⟨(some 34), .iadr (.sl 1 false) (.t 32) (.t 33), none, none⟩, [1, 2]⟩,
     ⟨⟨(some 35), .load 1 false (.t 34), none, some .str⟩, [3]⟩,
     ⟨⟨(some 36), .fadr 0 (.t 1), none, none⟩, []⟩,
     ⟨⟨(some 37), .load 1 false (.t 36), none, none⟩, [5]⟩,
     ⟨⟨(some 38), .mov (.t 4), none, some (.int .i64)⟩, []⟩,
     ⟨⟨(some 39), .iadr (.sl 1 false) (.t 37) (.t 38), none, none⟩, [6, 7]⟩,
     ⟨⟨(some 40), .load 1 false (.t 39), none, some .str⟩, [8]⟩,
     ⟨⟨(some 41), .binS .eql (.t 35) (.t 40), none, some .bool⟩, [4, 9]⟩])
    (.cond (.t 41) (.seq (.region [⟨(some 2), .mov (.c (.fz (.int .i64 10))), none, some (.int .i64)⟩])
      (.ret))
     (.skip))))
  (.region [⟨(some 29), .mov (.t 4), none, some (.int .i64)⟩,
   ⟨(some 30), .binI .add .i64 (.t 29) (.c (.fz (.int .i64 1))), none, some (.int .i64)⟩,
   ⟨(some 4), .mov (.t 30), none, some (.int .i64)⟩]))
def A_ref01_Check_s1 : ACode := .seq (.region [⟨(some 42), .fadr 0 (.t 1), none, none⟩,
  ⟨(some 43), .load 1 false (.t 42), none, none⟩,
  ⟨(some 44), .mov (.t 3), none, some (.int .i64)⟩,
  ⟨(some 45), .iadr (.sl 1 false) (.t 43) (.t 44), none, none⟩,
  ⟨(some 46), .load 1 false (.t 45), none, some .str⟩,
  ⟨(some 47), .call N_ref01_Name [((.t 46), .fz)] [.fz], none, some .bool⟩,
  ⟨(some 48), .notB (.t 47), none, some .bool⟩])
 (.cond (.t 48) (.seq (.region [⟨(some 2), .mov (.c (.fz (.int .i64 10))), none, some (.int .i64)⟩])
   (.ret))
  (.skip))
def A_ref01_Check_s2 : ACode := .region [⟨(some 24), .mov (.t 3), none, some (.int .i64)⟩,
 ⟨(some 25), .binI .add .i64 (.t 24) (.c (.fz (.int .i64 1))), none, some (.int .i64)⟩,
 ⟨(some 3), .mov (.t 25), none, some (.int .i64)⟩]
def A_ref01_Check_b2 : ACode := .seq (.seq (.region [⟨(some 19), .mov (.t 3), none, some (.int .i64)⟩,
   ⟨(some 20), .fadr 0 (.t 1), none, none⟩,
   ⟨(some 21), .load 1 false (.t 20), none, none⟩,
   ⟨(some 22), .len (.sl 1 false) (.t 21), none, some (.int .i64)⟩,
   ⟨(some 23), .binI .lss .i64 (.t 19) (.t 22), none, some .bool⟩])
  (.cond (.t 23) (.skip)
   (.exit 0)))
 (.seq (.block 1 (.seq (.seq (.region [⟨(some 4), .mov (.c (.fz (.int .i64 0))), none, some (.int .i64)⟩])
     (.block 2 (.loop [1, 3, 4] [1, 2, 3] A_ref01_Check_b1)))
    A_ref01_Check_s1))
  A_ref01_Check_s2)
def A_ref01_Check_b3 : ACode := .seq (.seq (.region [⟨(some 53), .mov (.t 5), none, some (.int .i64)⟩,
   ⟨(some 54), .fadr 1 (.t 1), none, none⟩,
   ⟨(some 55), .load 1 false (.t 54), none, none⟩,
   ⟨(some 56), .len (.sl 2 true) (.t 55), none, some (.int .i64)⟩,
   ⟨(some 57), .binI .lss .i64 (.t 53) (.t 56), none, some .bool⟩])
  (.cond (.t 57) (.skip)
   (.exit 4)))
 (.seq (.block 5 (.seq (.draws [⟨⟨(some 60), .fadr 1 (.t 1), none, none⟩, []⟩,
     ⟨⟨(some 61), .load 1 false (.t 60), none, none⟩, [0]⟩,
     ⟨⟨(some 62), .mov (.t 5), none, some (.int .i64)⟩, []⟩,
     ⟨⟨(some 63), .iadr (.sl 2 true) (.t 61) (.t 62), none, none⟩, [1, 2]⟩,
     ⟨⟨(some 64), .iadr (.arr 2 1 false) (.t 63) (.c (.fz (.int .i64 0))), none, none⟩, [3]⟩,
     ⟨⟨(some 65), .load 1 false (.t 64), none, some (.int .i64)⟩, [4]⟩,
     ⟨⟨(some 66), .binI .lss .i64 (.t 65) (.c (.fz (.int .i64 0))), none, some .bool⟩, [5]⟩,
     ⟨⟨(some 67), .mov (.t 66), none, some .bool⟩, [6]⟩,
     ⟨⟨(some 68), .fadr 1 (.t 1), (some (67, false)), none⟩, [7]⟩,
     ⟨⟨(some 69), .load 1 false (.t 68), (some (67, false)), none⟩, [8, 7]⟩,
     ⟨⟨(some 70), .mov (.t 5), (some (67, false)), some (.int .i64)⟩, [7]⟩,
     ⟨⟨(some 71), .iadr (.sl 2 true) (.t 69) (.t 70), (some (67, false)), none⟩, [9, 10, 7]⟩,
     ⟨⟨(some 72), .iadr (.arr 2 1 false) (.t 71) (.c (.fz (.int .i64 1))), (some (67, false)), none⟩, [11, 7]⟩,
     ⟨⟨(some 73), .load 1 false (.t 72), (some (67, false)), some (.int .i64)⟩, [12, 7]⟩,
     ⟨⟨(some 74), .binI .lss .i64 (.t 73) (.c (.fz (.int .i64 0))), (some (67, false)), some .bool⟩, [13, 7]⟩,
     ⟨⟨(some 75), .pick (.t 67) (.c (.fz (.bool true))) (.t 74), none, some .bool⟩, [7, 14]⟩,
     ⟨⟨(some 76), .mov (.t 75), none, some .bool⟩, [15, 7]⟩,
     ⟨⟨(some 77), .fadr 1 (.t 1), (some (76, false)), none⟩, [16]⟩,
     ⟨⟨(some 78), .load 1 false (.t 77), (some (76, false)), none⟩, [17, 16]⟩,
     ⟨⟨(some 79), .mov (.t 5), (some (76, false)), some (.int .i64)⟩, [16]⟩,
     ⟨⟨(some 80), .iadr (.sl 2 true) (.t 78) (.t 79), (some (76, false)), none⟩, [18, 19, 16]⟩,
     ⟨⟨(some 81), .iadr (.arr 2 1 false) (.t 80) (.c (.fz (.int .i64 0))), (some (76, false)), none⟩, [20, 16]⟩,
     ⟨⟨(some 82), .load 1 false (.t 81), (some (76, false)), some (.int .i64)⟩, [21, 16]⟩,
     ⟨⟨(some 83), .fadr 0 (.t 1), (some (76, false)), none⟩, [16]⟩,
     ⟨⟨(some 84), .load 1 false (.t 83), (some (76, false)), none⟩, [23, 16]⟩,
     ⟨⟨(some 85), .len (.sl 1 false) (.t 84), (some (76, false)), some (.int .i64)⟩, [24, 16]⟩,
     ⟨⟨(some 86), .binI .geq .i64 (.t 82) (.t 85), (some (76, false)), some .bool⟩, [22, 25, 16]⟩,
     ⟨⟨(some 87), .pick (.t 76) (.c (.fz (.bool true))) (.t 86), none, some .bool⟩, [16, 26]⟩,
     ⟨⟨(some 88), .mov (.t 87), none, some .bool⟩, [27, 16]⟩,
     ⟨⟨(some 89), .fadr 1 (.t 1), (some (88, false)), none⟩, [28]⟩,
     ⟨⟨(some 90), .load 1 false (.t 89), (some (88, false)), none⟩, [29, 28]⟩,
     ⟨⟨(some 91), .mov (.t 5), (some (88, false)), some (.int .i64)⟩, [28]⟩,
     ⟨⟨(some 92), .iadr (.sl 2 true) (.t 90) (.t 91), (some (88, false)), none⟩, [30, 31, 28]⟩,
     ⟨⟨(some 93), .iadr (.arr 2 1 false) (.t 92) (.c (.fz (.int .i64 1))), (some (88, false)), none⟩, [32, 28]⟩,
     ⟨⟨(some 94), .load 1 false (.t 93), (some (88, false)), some (.int .i64)⟩, [33, 28]⟩,
     ⟨⟨(some 95), .fadr 0 (.t 1), (some (88, false)), none⟩, [28]⟩,
     ⟨⟨(some 96), .load 1 false (.t 95), (some (88, false)), none⟩, [35, 28]⟩,
     ⟨⟨(some 97), .len (.sl 1 false) (.t 96), (some (88, false)), some (.int .i64)⟩, [36, 28]⟩,
     ⟨⟨(some 98), .binI .geq .i64 (.t 94) (.t 97), (some (88, false)), some .bool⟩, [34, 37, 28]⟩,
     ⟨⟨(some 99), .pick (.t 88) (.c (.fz (.bool true))) (.t 98), none, some .bool⟩, [28, 38]⟩])
    (.cond (.t 99) (.seq (.region [⟨(some 2), .mov (.c (.fz (.int .i64 2))), none, some (.int .i64)⟩])
      (.ret))
     (.skip))))
  (.region [⟨(some 58), .mov (.t 5), none, some (.int .i64)⟩,
   ⟨(some 59), .binI .add .i64 (.t 58) (.c (.fz (.int .i64 1))), none, some (.int .i64)⟩,
   ⟨(some 5), .mov (.t 59), none, some (.int .i64)⟩]))
def A_ref01_Check_b4 : ACode := .seq (.seq (.region [⟨(some 108), .mov (.t 8), none, some (.int .i64)⟩,
   ⟨(some 109), .mov (.t 6), none, none⟩,
   ⟨(some 110), .len (.sl 1 false) (.t 109), none, some (.int .i64)⟩,
   ⟨(some 111), .binI .lss .i64 (.t 108) (.t 110), none, some .bool⟩])
  (.cond (.t 111) (.skip)
   (.exit 8)))
 (.seq (.block 9 (.seq (.region [⟨(some 114), .mov (.t 7), none, some (.int .i64)⟩,
     ⟨(some 115), .mov (.t 8), none, some (.int .i64)⟩,
     ⟨(some 116), .binI .neq .i64 (.t 114) (.t 115), none, some .bool⟩,
     ⟨(some 117), .mov (.t 116), none, some .bool⟩,
     ⟨(some 118), .mov (.t 6), (some (117, true)), none⟩,
     ⟨(some 119), .mov (.t 7), (some (117, true)), some (.int .i64)⟩,
     ⟨(some 120), .iadr (.sl 1 false) (.t 118) (.t 119), (some (117, true)), none⟩,
     ⟨(some 121), .load 1 false (.t 120), (some (117, true)), none⟩,
     ⟨(some 122), .mov (.t 8), (some (117, true)), some (.int .i64)⟩,
     ⟨(some 123), .iadr (.sl 1 false) (.t 121) (.t 122), (some (117, true)), none⟩,
     ⟨(some 124), .load 1 false (.t 123), (some (117, true)), some .bool⟩,
     ⟨(some 125), .pick (.t 117) (.t 124) (.c (.fz (.bool false))), none, some .bool⟩,
     ⟨(some 126), .mov (.t 125), none, some .bool⟩,
     ⟨(some 127), .mov (.t 6), (some (126, true)), none⟩,
     ⟨(some 128), .mov (.t 8), (some (126, true)), some (.int .i64)⟩,
     ⟨(some 129), .iadr (.sl 1 false) (.t 127) (.t 128), (some (126, true)), none⟩,
     ⟨(some 130), .load 1 false (.t 129), (some (126, true)), none⟩,
     ⟨(some 131), .mov (.t 7), (some (126, true)), some (.int .i64)⟩,
     ⟨(some 132), .iadr (.sl 1 false) (.t 130) (.t 131), (some (126, true)), none⟩,
     ⟨(some 133), .load 1 false (.t 132), (some (126, true)), some .bool⟩,
     ⟨(some 134), .pick (.t 126) (.t 133) (.c (.fz (.bool false))), none, some .bool⟩,
     ⟨(some 135), .mov (.t 134), none, some .bool⟩,
     ⟨(some 136), .mov (.t 6), (some (135, false)), none⟩,
     ⟨(some 137), .mov (.t 7), (some (135, false)), some (.int .i64)⟩,
     ⟨(some 138), .mov (.t 8), (some (135, false)), some (.int .i64)⟩,
     ⟨(some 139), .call N_ref01_Join [((.t 136), .fz), ((.t 137), .fz), ((.t 138), .fz)] [.fz], (some (135, false)), none⟩,
     ⟨(some 140), .len (.sl 1 false) (.t 139), (some (135, false)), some (.int .i64)⟩,
     ⟨(some 141), .binI .neq .i64 (.t 140) (.c (.fz (.int .i64 1))), (some (135, false)), some .bool⟩,
     ⟨(some 142), .pick (.t 135) (.c (.fz (.bool true))) (.t 141), none, some .bool⟩,
     ⟨(some 143), .mov (.t 142), none, some .bool⟩,
     ⟨(some 144), .mov (.t 6), (some (143, false)), none⟩,
     ⟨(some 145), .mov (.t 7), (some (143, false)), some (.int .i64)⟩,
     ⟨(some 146), .mov (.t 8), (some (143, false)), some (.int .i64)⟩,
     ⟨(some 147), .call N_ref01_Meet [((.t 144), .fz), ((.t 145), .fz), ((.t 146), .fz)] [.fz], (some (143, false)), none⟩,
     ⟨(some 148), .len (.sl 1 false) (.t 147), (some (143, false)), some (.int .i64)⟩,
     ⟨(some 149), .binI .neq .i64 (.t 148) (.c (.fz (.int .i64 1))), (some (143, false)), some .bool⟩,
     ⟨(some 150), .pick (.t 143) (.c (.fz (.bool true))) (.t 149), none, some .bool⟩])
    (.cond (.t 150) (.seq (.region [⟨(some 2), .mov (.c (.fz (.int .i64 9))), none, some (.int .i64)⟩])
      (.ret))
     (.skip))))
  (.region [⟨(some 112), .mov (.t 8), none, some (.int .i64)⟩,
   ⟨(some 113), .binI .add .i64 (.t 112) (.c (.fz (.int .i64 1))), none, some (.int .i64)⟩,
   ⟨(some 8), .mov (.t 113), none, some (.int .i64)⟩]))
def A_ref01_Check_s3 : ACode := .region [⟨(some 106), .mov (.t 7), none, some (.int .i64)⟩,
 ⟨(some 107), .binI .add .i64 (.t 106) (.c (.fz (.int .i64 1))), none, some (.int .i64)⟩,
 ⟨(some 7), .mov (.t 107), none, some (.int .i64)⟩]
def A_ref01_Check_b5 : ACode := .seq (.seq (.region [⟨(some 102), .mov (.t 7), none, some (.int .i64)⟩,
   ⟨(some 103), .mov (.t 6), none, none⟩,
   ⟨(some 104), .len (.sl 1 false) (.t 103), none, some (.int .i64)⟩,
   ⟨(some 105), .binI .lss .i64 (.t 102) (.t 104), none, some .bool⟩])
  (.cond (.t 105) (.skip)
   (.exit 6)))
 (.seq (.block 7 (.seq (.region [⟨(some 8), .mov (.c (.fz (.int .i64 0))), none, some (.int .i64)⟩])
    (.block 8 (.loop [6, 7, 8] [2, 6, 7] A_ref01_Check_b4))))
  A_ref01_Check_s3)
def A_ref01_Check_s4 : ACode := .seq (.region [⟨(some 2), .mov (.c (.fz (.int .i64 0))), none, some (.int .i64)⟩])
 (.ret)
def A_ref01_Check_s5 : ACode := .seq (.region [⟨(some 100), .load 3 true (.t 1), none, none⟩,
  ⟨(some 101), .call N_ref01_Table [((.t 100), .fz)] [.fz], none, none⟩,
  ⟨(some 6), .mov (.t 101), none, none⟩])
 (.seq (.seq (.region [⟨(some 7), .mov (.c (.fz (.int .i64 0))), none, some (.int .i64)⟩])
   (.block 6 (.loop [6, 7] [2] A_ref01_Check_b5)))
  A_ref01_Check_s4)
def A_ref01_Check_s6 : ACode := .seq (.seq (.region [⟨(some 49), .fadr 1 (.t 1), none, none⟩,
   ⟨(some 50), .load 1 false (.t 49), none, none⟩,
   ⟨(some 51), .len (.sl 2 true) (.t 50), none, some (.int .i64)⟩,
   ⟨(some 52), .binI .gtr .i64 (.t 51) (.c (.fz (.int .i64 64))), none, some .bool⟩])
  (.cond (.t 52) (.seq (.region [⟨(some 2), .mov (.c (.fz (.int .i64 2))), none, some (.int .i64)⟩])
    (.ret))
   (.skip)))
 (.seq (.seq (.region [⟨(some 5), .mov (.c (.fz (.int .i64 0))), none, some (.int .i64)⟩])
   (.block 4 (.loop [1, 5] [1, 2] A_ref01_Check_b3)))
  A_ref01_Check_s5)
def A_ref01_Check_j7 : ACode := .seq (.seq (.region [⟨(some 3), .mov (.c (.fz (.int .i64 0))), none, some (.int .i64)⟩])
  (.block 0 (.loop [1, 3] [1, 2] A_ref01_Check_b2)))
 A_ref01_Check_s6
def A_ref01_Check : AFunc := ⟨1, [(.tmp 2, .fz)], .seq (.region [⟨(some 1), .box 3 true (.t 0), none, none⟩,
  ⟨(some 2), .mov (.c (.fz (.int .i64 0))), none, some (.int .i64)⟩])
 (.seq (.seq (.region [⟨(some 9), .fadr 0 (.t 1), none, none⟩,
    ⟨(some 10), .load 1 false (.t 9), none, none⟩,
    ⟨(some 11), .len (.sl 1 false) (.t 10), none, some (.int .i64)⟩,
    ⟨(some 12), .binI .lss .i64 (.t 11) (.c (.fz (.int .i64 1))), none, some .bool⟩,
    ⟨(some 13), .mov (.t 12), none, some .bool⟩,
    ⟨(some 14), .fadr 0 (.t 1), (some (13, false)), none⟩,
    ⟨(some 15), .load 1 false (.t 14), (some (13, false)), none⟩,
    ⟨(some 16), .len (.sl 1 false) (.t 15), (some (13, false)), some (.int .i64)⟩,
    ⟨(some 17), .binI .gtr .i64 (.t 16) (.c (.fz (.int .i64 8))), (some (13, false)), some .bool⟩,
    ⟨(some 18), .pick (.t 13) (.c (.fz (.bool true))) (.t 17), none, some .bool⟩])
   (.cond (.t 18) (.seq (.region [⟨(some 2), .mov (.c (.fz (.int .i64 10))), none, some (.int .i64)⟩])
     (.ret))
    (.skip)))
  (.trim [1] A_ref01_Check_j7))⟩
def J_ref01_Check_7_0 (R : Orc) (k : Nat) (w : Bool) (h4096_0 : List FV) (h4096_1 : List FV) (h4096_2 : List FV) := execL R k w [] A_ref01_Check_j7 Ans ⟨[(1, .ptr 4096 0 0)], [(4095, .dead), (4096, .var 3 true (.fz (FV.ag [(FV.sl h4096_0), (FV.sl h4096_1), (FV.sl h4096_2)])))]⟩ (kFin R [(.tmp 2, .fz)] [])
def K_ref01_Check_2 (R : Orc) (k : Nat) (w : Bool) : AExit → St → Option Ans := (kBlk 0 (kSeq R k w [] A_ref01_Check_s6 (kFin R [(.tmp 2, .fz)] [])))
def L_ref01_Check_2_0 (R : Orc) (k : Nat) (w : Bool) (n : Nat) (x3 : Int) (h4096_0 : List FV) (h4096_1 : List FV) (h4096_2 : List FV) := loopL R k w [] [1, 3] [1, 2] A_ref01_Check_b2 n ⟨[(1, .ptr 4096 0 0), (3, .fz (FV.int .i64 x3))], [(4095, .dead), (4096, .var 3 true (.fz (FV.ag [(FV.sl h4096_0), (FV.sl h4096_1), (FV.sl h4096_2)])))]⟩
def K_ref01_Check_1 (R : Orc) (k : Nat) (w : Bool) (n : Nat) : AExit → St → Option (AExit × St) := (kBlk 2 (kSeq R k w [] A_ref01_Check_s1 (kBlk 1 (kSeq R k w [] A_ref01_Check_s2 (kLoop R k w [] [1, 3] [1, 2] A_ref01_Check_b2 n)))))
def L_ref01_Check_1_0 (R : Orc) (k : Nat) (w : Bool) (n : Nat) (x3 : Int) (x4 : Int) (h4096_0 : List FV) (h4096_1 : List FV) (h4096_2 : List FV) := loopL R k w [] [1, 3, 4] [1, 2, 3] A_ref01_Check_b1 n ⟨[(1, .ptr 4096 0 0), (3, .fz (FV.int .i64 x3)), (4, .fz (FV.int .i64 x4))], [(4095, .dead), (4096, .var 3 true (.fz (FV.ag [(FV.sl h4096_0), (FV.sl h4096_1), (FV.sl h4096_2)])))]⟩
def X_ref01_Check_2_0 (h4096_0 : List FV) (h4096_1 : List FV) (h4096_2 : List FV) : St := ⟨[(1, .ptr 4096 0 0)], [(4095, .dead), (4096, .var 3 true (.fz (FV.ag [(FV.sl h4096_0), (FV.sl h4096_1), (FV.sl h4096_2)])))]⟩
def X_ref01_Check_1_0 (x2 : Int) (x3 : Int) (h4096_0 : List FV) (h4096_1 : List FV) (h4096_2 : List FV) : St := ⟨[(1, .ptr 4096 0 0), (2, .fz (FV.int .i64 x2)), (3, .fz (FV.int .i64 x3))], [(4095, .dead), (4096, .var 3 true (.fz (FV.ag [(FV.sl h4096_0), (FV.sl h4096_1), (FV.sl h4096_2)])))]⟩
def X_ref01_Check_1_1 (x3 : Int) (h4096_0 : List FV) (h4096_1 : List FV) (h4096_2 : List FV) : St := ⟨[(1, .ptr 4096 0 0), (3, .fz (FV.int .i64 x3))], [(4095, .dead), (4096, .var 3 true (.fz (FV.ag [(FV.sl h4096_0), (FV.sl h4096_1), (FV.sl h4096_2)])))]⟩
def K_ref01_Check_3 (R : Orc) (k : Nat) (w : Bool) : AExit → St → Option Ans := (kBlk 4 (kSeq R k w [] A_ref01_Check_s5 (kFin R [(.tmp 2, .fz)] [])))
def L_ref01_Check_3_0 (R : Orc) (k : Nat) (w : Bool) (n : Nat) (x5 : Int) (h4096_0 : List FV) (h4096_1 : List FV) (h4096_2 : List FV) := loopL R k w [] [1, 5] [1, 2] A_ref01_Check_b3 n ⟨[(1, .ptr 4096 0 0), (5, .fz (FV.int .i64 x5))], [(4095, .dead), (4096, .var 3 true (.fz (FV.ag [(FV.sl h4096_0), (FV.sl h4096_1), (FV.sl h4096_2)])))]⟩
def X_ref01_Check_2_1 (x2 : Int) (h4096_0 : List FV) (h4096_1 : List FV) (h4096_2 : List FV) : St := ⟨[(1, .ptr 4096 0 0), (2, .fz (FV.int .i64 x2))], [(4095, .dead), (4096, .var 3 true (.fz (FV.ag [(FV.sl h4096_0), (FV.sl h4096_1), (FV.sl h4096_2)])))]⟩
def X_ref01_Check_3_0 (x2 : Int) (h4096_0 : List FV) (h4096_1 : List FV) (h4096_2 : List FV) : St := ⟨[(1, .ptr 4096 0 0), (2, .fz (FV.int .i64 x2))], [(4095, .dead), (4096, .var 3 true (.fz (FV.ag [(FV.sl h4096_0), (FV.sl h4096_1), (FV.sl h4096_2)])))]⟩
def X_ref01_Check_3_1 (h4096_0 : List FV) (h4096_1 : List FV) (h4096_2 : List FV) : St := ⟨[(1, .ptr 4096 0 0)], [(4095, .dead), (4096, .var 3 true (.fz (FV.ag [(FV.sl h4096_0), (FV.sl h4096_1), (FV.sl h4096_2)])))]⟩
def K_ref01_Check_5 (R : Orc) (k : Nat) (w : Bool) : AExit → St → Option Ans := (kBlk 6 (kSeq R k w [] A_ref01_Check_s4 (kFin R [(.tmp 2, .fz)] [])))
def L_ref01_Check_5_0 (R : Orc) (k : Nat) (w : Bool) (n : Nat) (x6 : FV) (x7 : Int) := loopL R k w [] [6, 7] [2] A_ref01_Check_b5 n ⟨[(6, .fz x6), (7, .fz (FV.int .i64 x7))], [(4095, .dead)]⟩
def K_ref01_Check_4 (R : Orc) (k : Nat) (w : Bool) (n : Nat) : AExit → St → Option (AExit × St) := (kBlk 8 (kBlk 7 (kSeq R k w [] A_ref01_Check_s3 (kLoop R k w [] [6, 7] [2] A_ref01_Check_b5 n))))
def L_ref01_Check_4_0 (R : Orc) (k : Nat) (w : Bool) (n : Nat) (x6 : FV) (x7 : Int) (x8 : Int) := loopL R k w [] [6, 7, 8] [2, 6, 7] A_ref01_Check_b4 n ⟨[(6, .fz x6), (7, .fz (FV.int .i64 x7)), (8, .fz (FV.int .i64 x8))], [(4095, .dead)]⟩
def X_ref01_Check_5_0 : St := ⟨[], [(4095, .dead)]⟩
def X_ref01_Check_4_0 (x2 : Int) (x6 : FV) (x7 : Int) : St := ⟨[(2, .fz (FV.int .i64 x2)), (6, .fz x6), (7, .fz (FV.int .i64 x7))], [(4095, .dead)]⟩
def X_ref01_Check_4_1 (x6 : FV) (x7 : Int) : St := ⟨[(6, .fz x6), (7, .fz (FV.int .i64 x7))], [(4095, .dead)]⟩
def X_ref01_Check_5_1 (x2 : Int) : St := ⟨[(2, .fz (FV.int .i64 x2))], [(4095, .dead)]⟩
theorem E_ref01_Check (R : Orc) (k : Nat) (w : Bool) (a0_0 : List FV) (a0_1 : List FV) (a0_2 : List FV) : callL R k w A_ref01_Check [.fz (FV.ag [(FV.sl a0_0), (FV.sl a0_1), (FV.sl a0_2)])] = ifB (decide ((List.length a0_0 : Int) < 1))
  (some ([.fz (FV.int .i64 10)], []))
  (ifB (decide ((List.length a0_0 : Int) > 8))
   (some ([.fz (FV.int .i64 10)], []))
   (jump w (J_ref01_Check_7_0 R k w a0_0 a0_1 a0_2))) := by kernel_rfl
theorem J_ref01_Check_7_0_eq (R : Orc) (k : Nat) (w : Bool) (h4096_0 : List FV) (h4096_1 : List FV) (h4096_2 : List FV) : J_ref01_Check_7_0 R k w h4096_0 h4096_1 h4096_2 = onL (L_ref01_Check_2_0 R k w k 0 h4096_0 h4096_1 h4096_2) (K_ref01_Check_2 R k w) := by kernel_rfl
theorem L_ref01_Check_2_0_eq (R : Orc) (k : Nat) (w : Bool) (n : Nat) (x3 : Int) (h4096_0 : List FV) (h4096_1 : List FV) (h4096_2 : List FV) : L_ref01_Check_2_0 R k w (n + 1) x3 h4096_0 h4096_1 h4096_2 = ifB (decide (x3 < (List.length h4096_0 : Int)))
  (onL (L_ref01_Check_1_0 R k w k x3 0 h4096_0 h4096_1 h4096_2) (K_ref01_Check_1 R k w n))
  (some ((.exit 0), X_ref01_Check_2_0 h4096_0 h4096_1 h4096_2)) := by kernel_rfl
theorem L_ref01_Check_1_0_eq (R : Orc) (k : Nat) (w : Bool) (n : Nat) (x3 : Int) (x4 : Int) (h4096_0 : List FV) (h4096_1 : List FV) (h4096_2 : List FV) : L_ref01_Check_1_0 R k w (n + 1) x3 x4 h4096_0 h4096_1 h4096_2 = ifB (decide (x4 < x3))
  (when ((decide (0 ≤ x3)) && (decide (x3 < (List.length h4096_0 : Int)))) (when (FV.fits 1 false (List.getD h4096_0 (Int.toNat x3) FV.nilp)) (when (FV.isStr (List.getD h4096_0 (Int.toNat x3) FV.nilp)) (when ((decide (0 ≤ x4)) && (decide (x4 < (List.length h4096_0 : Int)))) (when (FV.fits 1 false (List.getD h4096_0 (Int.toNat x4) FV.nilp)) (when (FV.isStr (List.getD h4096_0 (Int.toNat x4) FV.nilp)) (ifB (ByteArray.toList (FV.toStr (List.getD h4096_0 (Int.toNat x3) FV.nilp)) == ByteArray.toList (FV.toStr (List.getD h4096_0 (Int.toNat x4) FV.nilp)))
   (some (.ret, X_ref01_Check_1_0 10 x3 h4096_0 h4096_1 h4096_2))
   (L_ref01_Check_1_0 R k w n x3 (IntKind.wrap .i64 (x4 + 1)) h4096_0 h4096_1 h4096_2))))))))
  (some ((.exit 2), X_ref01_Check_1_1 x3 h4096_0 h4096_1 h4096_2)) := by kernel_rfl
theorem X_ref01_Check_2_0_eq (R : Orc) (k : Nat) (w : Bool) (h4096_0 : List FV) (h4096_1 : List FV) (h4096_2 : List FV) : K_ref01_Check_2 R k w (.exit 0) (X_ref01_Check_2_0 h4096_0 h4096_1 h4096_2) = ifB (decide ((List.length h4096_1 : Int) > 64))
  (some ([.fz (FV.int .i64 2)], []))
  (onL (L_ref01_Check_3_0 R k w k 0 h4096_0 h4096_1 h4096_2) (K_ref01_Check_3 R k w)) := by kernel_rfl
theorem X_ref01_Check_1_0_eq (R : Orc) (k : Nat) (w : Bool) (n : Nat) (x2 : Int) (x3 : Int) (h4096_0 : List FV) (h4096_1 : List FV) (h4096_2 : List FV) : K_ref01_Check_1 R k w n .ret (X_ref01_Check_1_0 x2 x3 h4096_0 h4096_1 h4096_2) = some (.ret, X_ref01_Check_2_1 x2 h4096_0 h4096_1 h4096_2) := by kernel_rfl
theorem X_ref01_Check_1_1_eq (R : Orc) (k : Nat) (w : Bool) (n : Nat) (x3 : Int) (h4096_0 : List FV) (h4096_1 : List FV) (h4096_2 : List FV) : K_ref01_Check_1 R k w n (.exit 2) (X_ref01_Check_1_1 x3 h4096_0 h4096_1 h4096_2) = when ((decide (0 ≤ x3)) && (decide (x3 < (List.length h4096_0 : Int)))) (when (FV.fits 1 false (List.getD h4096_0 (Int.toNat x3) FV.nilp)) (when (FV.isStr (List.getD h4096_0 (Int.toNat x3) FV.nilp)) (onR (R N_ref01_Name [.fz (FV.str (FV.toStr (List.getD h4096_0 (Int.toNat x3) FV.nilp)))]) fun r0 => when (List.isEmpty r0.2 && allF [.fz] r0.1) (when (FV.isBool (TV.toF (List.getD r0.1 0 TV.em))) (ifB (!(FV.toBool (TV.toF (List.getD r0.1 0 TV.em))))
  (some (.ret, X_ref01_Check_2_1 10 h4096_0 h4096_1 h4096_2))
  (L_ref01_Check_2_0 R k w n (IntKind.wrap .i64 (x3 + 1)) h4096_0 h4096_1 h4096_2)))))) := by kernel_rfl
theorem L_ref01_Check_3_0_eq (R : Orc) (k : Nat) (w : Bool) (n : Nat) (x5 : Int) (h4096_0 : List FV) (h4096_1 : List FV) (h4096_2 : List FV) : L_ref01_Check_3_0 R k w (n + 1) x5 h4096_0 h4096_1 h4096_2 = ifB (decide (x5 < (List.length h4096_1 : Int)))
  (when ((decide (0 ≤ x5)) && (decide (x5 < (List.length h4096_1 : Int)))) (when (FV.fits 2 true (List.getD h4096_1 (Int.toNat x5) FV.nilp)) (when (FV.isAg 2 (List.getD h4096_1 (Int.toNat x5) FV.nilp)) (when (FV.isInt .i64 (FV.cell (List.getD h4096_1 (Int.toNat x5) FV.nilp) 0)) (ifB (decide ((FV.toInt (FV.cell (List.getD h4096_1 (Int.toNat x5) FV.nilp) 0)) < 0))
   (some (.ret, X_ref01_Check_3_0 2 h4096_0 h4096_1 h4096_2))
   (when ((decide (0 ≤ x5)) && (decide (x5 < (List.length h4096_1 : Int)))) (when (FV.fits 2 true (List.getD h4096_1 (Int.toNat x5) FV.nilp)) (when (FV.isAg 2 (List.getD h4096_1 (Int.toNat x5) FV.nilp)) (when (FV.isInt .i64 (FV.cell (List.getD h4096_1 (Int.toNat x5) FV.nilp) 1)) (ifB (decide ((FV.toInt (FV.cell (List.getD h4096_1 (Int.toNat x5) FV.nilp) 1)) < 0))
    (some (.ret, X_ref01_Check_3_0 2 h4096_0 h4096_1 h4096_2))
    (when ((decide (0 ≤ x5)) && (decide (x5 < (List.length h4096_1 : Int)))) (when (FV.fits 2 true (List.getD h4096_1 (Int.toNat x5) FV.nilp)) (when (FV.isAg 2 (List.getD h4096_1 (Int.toNat x5) FV.nilp)) (when (FV.isInt .i64 (FV.cell (List.getD h4096_1 (Int.toNat x5) FV.nilp) 0)) (ifB (decide ((FV.toInt (FV.cell (List.getD h4096_1 (Int.toNat x5) FV.nilp) 0)) ≥ (List.length h4096_0 : Int)))
     (some (.ret, X_ref01_Check_3_0 2 h4096_0 h4096_1 h4096_2))
     (when ((decide (0 ≤ x5)) && (decide (x5 < (List.length h4096_1 : Int)))) (when (FV.fits 2 true (List.getD h4096_1 (Int.toNat x5) FV.nilp)) (when (FV.isAg 2 (List.getD h4096_1 (Int.toNat x5) FV.nilp)) (when (FV.isInt .i64 (FV.cell (List.getD h4096_1 (Int.toNat x5) FV.nilp) 1)) (ifB (decide ((FV.toInt (FV.cell (List.getD h4096_1 (Int.toNat x5) FV.nilp) 1)) ≥ (List.length h4096_0 : Int)))
      (some (.ret, X_ref01_Check_3_0 2 h4096_0 h4096_1 h4096_2))
      (L_ref01_Check_3_0 R k w n (IntKind.wrap .i64 (x5 + 1)) h4096_0 h4096_1 h4096_2)))))))))))))))))))))
  (some ((.exit 4), X_ref01_Check_3_1 h4096_0 h4096_1 h4096_2)) := by kernel_rfl
theorem X_ref01_Check_2_1_eq (R : Orc) (k : Nat) (w : Bool) (x2 : Int) (h4096_0 : List FV) (h4096_1 : List FV) (h4096_2 : List FV) : K_ref01_Check_2 R k w .ret (X_ref01_Check_2_1 x2 h4096_0 h4096_1 h4096_2) = some ([.fz (FV.int .i64 x2)], []) := by kernel_rfl
theorem X_ref01_Check_3_0_eq (R : Orc) (k : Nat) (w : Bool) (x2 : Int) (h4096_0 : List FV) (h4096_1 : List FV) (h4096_2 : List FV) : K_ref01_Check_3 R k w .ret (X_ref01_Check_3_0 x2 h4096_0 h4096_1 h4096_2) = some ([.fz (FV.int .i64 x2)], []) := by kernel_rfl
theorem X_ref01_Check_3_1_eq (R : Orc) (k : Nat) (w : Bool) (h4096_0 : List FV) (h4096_1 : List FV) (h4096_2 : List FV) : K_ref01_Check_3 R k w (.exit 4) (X_ref01_Check_3_1 h4096_0 h4096_1 h4096_2) = onR (R N_ref01_Table [.fz (FV.ag [(FV.sl h4096_0), (FV.sl h4096_1), (FV.sl h4096_2)])]) fun r1 => when (List.isEmpty r1.2 && allF [.fz] r1.1) (onL (L_ref01_Check_5_0 R k w k (TV.toF (List.getD r1.1 0 TV.em)) 0) (K_ref01_Check_5 R k w)) := by kernel_rfl
theorem L_ref01_Check_5_0_eq (R : Orc) (k : Nat) (w : Bool) (n : Nat) (x6 : FV) (x7 : Int) : L_ref01_Check_5_0 R k w (n + 1) x6 x7 = when (FV.isSl x6) (ifB (decide (x7 < (List.length (FV.toSl x6) : Int)))
  (onL (L_ref01_Check_4_0 R k w k x6 x7 0) (K_ref01_Check_4 R k w n))
  (some ((.exit 6), X_ref01_Check_5_0))) := by kernel_rfl
theorem L_ref01_Check_4_0_eq (R : Orc) (k : Nat) (w : Bool) (n : Nat) (x6 : FV) (x7 : Int) (x8 : Int) : L_ref01_Check_4_0 R k w (n + 1) x6 x7 x8 = when (FV.isSl x6) (ifB (decide (x8 < (List.length (FV.toSl x6) : Int)))
  (ifB (x7 != x8)
   (when (FV.isSl x6) (when ((decide (0 ≤ x7)) && (decide (x7 < (List.length (FV.toSl x6) : Int)))) (when (FV.fits 1 false (List.getD (FV.toSl x6) (Int.toNat x7) FV.nilp)) (when (FV.isSl (List.getD (FV.toSl x6) (Int.toNat x7) FV.nilp)) (when ((decide (0 ≤ x8)) && (decide (x8 < (List.length (FV.toSl (List.getD (FV.toSl x6) (Int.toNat x7) FV.nilp)) : Int)))) (when (FV.fits 1 false (List.getD (FV.toSl (List.getD (FV.toSl x6) (Int.toNat x7) FV.nilp)) (Int.toNat x8) FV.nilp)) (when (FV.isBool (List.getD (FV.toSl (List.getD (FV.toSl x6) (Int.toNat x7) FV.nilp)) (Int.toNat x8) FV.nilp)) (ifB (FV.toBool (List.getD (FV.toSl (List.getD (FV.toSl x6) (Int.toNat x7) FV.nilp)) (Int.toNat x8) FV.nilp))
    (when (FV.isSl x6) (when ((decide (0 ≤ x8)) && (decide (x8 < (List.length (FV.toSl x6) : Int)))) (when (FV.fits 1 false (List.getD (FV.toSl x6) (Int.toNat x8) FV.nilp)) (when (FV.isSl (List.getD (FV.toSl x6) (Int.toNat x8) FV.nilp)) (when ((decide (0 ≤ x7)) && (decide (x7 < (List.length (FV.toSl (List.getD (FV.toSl x6) (Int.toNat x8) FV.nilp)) : Int)))) (when (FV.fits 1 false (List.getD (FV.toSl (List.getD (FV.toSl x6) (Int.toNat x8) FV.nilp)) (Int.toNat x7) FV.nilp)) (when (FV.isBool (List.getD (FV.toSl (List.getD (FV.toSl x6) (Int.toNat x8) FV.nilp)) (Int.toNat x7) FV.nilp)) (ifB (FV.toBool (List.getD (FV.toSl (List.getD (FV.toSl x6) (Int.toNat x8) FV.nilp)) (Int.toNat x7) FV.nilp))
     (some (.ret, X_ref01_Check_4_0 9 x6 x7))
     (onR (R N_ref01_Join [.fz x6, .fz (FV.int .i64 x7), .fz (FV.int .i64 x8)]) fun r2 => when (List.isEmpty r2.2 && allF [.fz] r2.1) (when (FV.isSl (TV.toF (List.getD r2.1 0 TV.em))) (ifB ((List.length (FV.toSl (TV.toF (List.getD r2.1 0 TV.em))) : Int) != 1)
      (some (.ret, X_ref01_Check_4_0 9 x6 x7))
      (onR (R N_ref01_Meet [.fz x6, .fz (FV.int .i64 x7), .fz (FV.int .i64 x8)]) fun r3 => when (List.isEmpty r3.2 && allF [.fz] r3.1) (when (FV.isSl (TV.toF (List.getD r3.1 0 TV.em))) (ifB ((List.length (FV.toSl (TV.toF (List.getD r3.1 0 TV.em))) : Int) != 1)
       (some (.ret, X_ref01_Check_4_0 9 x6 x7))
       (L_ref01_Check_4_0 R k w n x6 x7 (IntKind.wrap .i64 (x8 + 1)))))))))))))))))
    (onR (R N_ref01_Join [.fz x6, .fz (FV.int .i64 x7), .fz (FV.int .i64 x8)]) fun r4 => when (List.isEmpty r4.2 && allF [.fz] r4.1) (when (FV.isSl (TV.toF (List.getD r4.1 0 TV.em))) (ifB ((List.length (FV.toSl (TV.toF (List.getD r4.1 0 TV.em))) : Int) != 1)
     (some (.ret, X_ref01_Check_4_0 9 x6 x7))
     (onR (R N_ref01_Meet [.fz x6, .fz (FV.int .i64 x7), .fz (FV.int .i64 x8)]) fun r5 => when (List.isEmpty r5.2 && allF [.fz] r5.1) (when (FV.isSl (TV.toF (List.getD r5.1 0 TV.em))) (ifB ((List.length (FV.toSl (TV.toF (List.getD r5.1 0 TV.em))) : Int) != 1)
      (some (.ret, X_ref01_Check_4_0 9 x6 x7))
      (L_ref01_Check_4_0 R k w n x6 x7 (IntKind.wrap .i64 (x8 + 1)))))))))))))))))
   (onR (R N_ref01_Join [.fz x6, .fz (FV.int .i64 x7), .fz (FV.int .i64 x8)]) fun r6 => when (List.isEmpty r6.2 && allF [.fz] r6.1) (when (FV.isSl (TV.toF (List.getD r6.1 0 TV.em))) (ifB ((List.length (FV.toSl (TV.toF (List.getD r6.1 0 TV.em))) : Int) != 1)
    (some (.ret, X_ref01_Check_4_0 9 x6 x7))
    (onR (R N_ref01_Meet [.fz x6, .fz (FV.int .i64 x7), .fz (FV.int .i64 x8)]) fun r7 => when (List.isEmpty r7.2 && allF [.fz] r7.1) (when (FV.isSl (TV.toF (List.getD r7.1 0 TV.em))) (ifB ((List.length (FV.toSl (TV.toF (List.getD r7.1 0 TV.em))) : Int) != 1)
     (some (.ret, X_ref01_Check_4_0 9 x6 x7))
     (L_ref01_Check_4_0 R k w n x6 x7 (IntKind.wrap .i64 (x8 + 1))))))))))
  (some ((.exit 8), X_ref01_Check_4_1 x6 x7))) := by kernel_rfl
theorem X_ref01_Check_5_0_eq (R : Orc) (k : Nat) (w : Bool) : K_ref01_Check_5 R k w (.exit 6) (X_ref01_Check_5_0) = some ([.fz (FV.int .i64 0)], []) := by kernel_rfl
theorem X_ref01_Check_4_0_eq (R : Orc) (k : Nat) (w : Bool) (n : Nat) (x2 : Int) (x6 : FV) (x7 : Int) : K_ref01_Check_4 R k w n .ret (X_ref01_Check_4_0 x2 x6 x7) = some (.ret, X_ref01_Check_5_1 x2) := by kernel_rfl
theorem X_ref01_Check_4_1_eq (R : Orc) (k : Nat) (w : Bool) (n : Nat) (x6 : FV) (x7 : Int) : K_ref01_Check_4 R k w n (.exit 8) (X_ref01_Check_4_1 x6 x7) = L_ref01_Check_5_0 R k w n x6 (IntKind.wrap .i64 (x7 + 1)) := by kernel_rfl
theorem X_ref01_Check_5_1_eq (R : Orc) (k : Nat) (w : Bool) (x2 : Int) : K_ref01_Check_5 R k w .ret (X_ref01_Check_5_1 x2) = some ([.fz (FV.int .i64 x2)], []) := by kernel_rfl
/-! keyhole/level.Name -/
def A_level_Name_j1 : ACode := .seq (.region [⟨(some 34), .mov (.t 5), none, some .bool⟩,
  ⟨(some 35), .notB (.t 34), none, some .bool⟩,
  ⟨(some 36), .mov (.t 35), none, some .bool⟩,
  ⟨(some 37), .mov (.t 6), (some (36, true)), some .bool⟩,
  ⟨(some 38), .notB (.t 37), (some (36, true)), some .bool⟩,
  ⟨(some 39), .mov (.t 38), (some (36, true)), some .bool⟩,
  ⟨(some 40), .mov (.t 3), (some (39, false)), some (.int .i64)⟩,
  ⟨(some 41), .binI .eql .i64 (.t 40) (.c (.fz (.int .i64 0))), (some (39, false)), some .bool⟩,
  ⟨(some 42), .pick (.t 39) (.c (.fz (.bool true))) (.t 41), (some (36, true)), some .bool⟩,
  ⟨(some 43), .pick (.t 36) (.t 42) (.c (.fz (.bool false))), none, some .bool⟩])
 (.cond (.t 43) (.seq (.region [⟨(some 2), .mov (.c (.fz (.bool false))), none, some .bool⟩])
   (.ret))
  (.skip))
def A_level_Name_j2 : ACode := .seq (.region [⟨(some 28), .mov (.t 4), none, some (.int .u8)⟩,
  ⟨(some 29), .binI .geq .u8 (.t 28) (.c (.fz (.int .u8 48))), none, some .bool⟩,
  ⟨(some 30), .mov (.t 29), none, some .bool⟩,
  ⟨(some 31), .mov (.t 4), (some (30, true)), some (.int .u8)⟩,
  ⟨(some 32), .binI .leq .u8 (.t 31) (.c (.fz (.int .u8 57))), (some (30, true)), some .bool⟩,
  ⟨(some 33), .pick (.t 30) (.t 32) (.c (.fz (.bool false))), none, some .bool⟩,
  ⟨(some 6), .mov (.t 33), none, some .bool⟩])
 (.trim [0, 3, 5, 6, 15, 16] A_level_Name_j1)
def A_level_Name_s3 : ACode := .region [⟨(some 44), .binI .add .i64 (.t 16) (.c (.fz (.int .i64 1))), none, some (.int .i64)⟩,
 ⟨(some 16), .mov (.t 44), none, some (.int .i64)⟩]
def A_level_Name_b1 : ACode := .seq (.region [⟨(some 17), .binI .lss .i64 (.t 16) (.t 15), none, some .bool⟩])
 (.seq (.cond (.t 17) (.skip)
   (.exit 0))
  (.seq (.block 1 (.seq (.region [⟨(some 18), .mov (.t 16), none, some (.int .i64)⟩,
      ⟨(some 3), .mov (.t 18), none, some (.int .i64)⟩])
     (.seq (.region [⟨(some 19), .mov (.t 0), none, some .str⟩,
       ⟨(some 20), .mov (.t 3), none, some (.int .i64)⟩,
       ⟨(some 21), .index .str (.t 19) (.t 20), none, some (.int .u8)⟩,
       ⟨(some 4), .mov (.t 21), none, some (.int .u8)⟩])
      (.seq (.region [⟨(some 22), .mov (.t 4), none, some (.int .u8)⟩,
        ⟨(some 23), .binI .geq .u8 (.t 22) (.c (.fz (.int .u8 97))), none, some .bool⟩,
        ⟨(some 24), .mov (.t 23), none, some .bool⟩,
        ⟨(some 25), .mov (.t 4), (some (24, true)), some (.int .u8)⟩,
        ⟨(some 26), .binI .leq .u8 (.t 25) (.c (.fz (.int .u8 122))), (some (24, true)), some .bool⟩,
        ⟨(some 27), .pick (.t 24) (.t 26) (.c (.fz (.bool false))), none, some .bool⟩,
        ⟨(some 5), .mov (.t 27), none, some .bool⟩])
       (.trim [0, 3, 4, 5, 15, 16] A_level_Name_j2)))))
   A_level_Name_s3))
def A_level_Name_s4 : ACode := .seq (.region [⟨(some 2), .mov (.c (.fz (.bool true))), none, some .bool⟩])
 (.ret)
def A_level_Name_j5 : ACode := .seq (.seq (.region [⟨(some 14), .mov (.t 0), none, some .str⟩,
   ⟨(some 15), .len .str (.t 14), none, some (.int .i64)⟩,
   ⟨(some 16), .mov (.c (.fz (.int .i64 0))), none, some (.int .i64)⟩])
  (.block 0 (.loop [0, 15, 16] [2] A_level_Name_b1)))
 A_level_Name_s4
def A_level_Name : AFunc := ⟨1, [(.tmp 2, .fz)], .seq (.region [⟨(some 2), .mov (.c (.fz (.bool false))), none, some .bool⟩])
 (.seq (.seq (.region [⟨(some 7), .mov (.t 0), none, some .str⟩,
    ⟨(some 8), .binS .eql (.t 7) (.c (.fz (.str ⟨#[]⟩))), none, some .bool⟩,
    ⟨(some 9), .mov (.t 8), none, some .bool⟩,
    ⟨(some 10), .mov (.t 0), (some (9, false)), some .str⟩,
    ⟨(some 11), .len .str (.t 10), (some (9, false)), some (.int .i64)⟩,
    ⟨(some 12), .binI .gtr .i64 (.t 11) (.c (.fz (.int .i64 16))), (some (9, false)), some .bool⟩,
    ⟨(some 13), .pick (.t 9) (.c (.fz (.bool true))) (.t 12), none, some .bool⟩])
   (.cond (.t 13) (.seq (.region [⟨(some 2), .mov (.c (.fz (.bool false))), none, some .bool⟩])
     (.ret))
    (.skip)))
  (.trim [0] A_level_Name_j5))⟩
def J_level_Name_5_0 (R : Orc) (k : Nat) (w : Bool) (x0 : ByteArray) := execL R k w [] A_level_Name_j5 Ans ⟨[(0, .fz (FV.str x0))], [(4095, .dead)]⟩ (kFin R [(.tmp 2, .fz)] [])
def K_level_Name_1 (R : Orc) (k : Nat) (w : Bool) : AExit → St → Option Ans := (kBlk 0 (kSeq R k w [] A_level_Name_s4 (kFin R [(.tmp 2, .fz)] [])))
def L_level_Name_1_0 (R : Orc) (k : Nat) (w : Bool) (n : Nat) (x0 : ByteArray) (x15 : Int) (x16 : Int) := loopL R k w [] [0, 15, 16] [2] A_level_Name_b1 n ⟨[(0, .fz (FV.str x0)), (15, .fz (FV.int .i64 x15)), (16, .fz (FV.int .i64 x16))], [(4095, .dead)]⟩
def J_level_Name_2_0 (R : Orc) (k : Nat) (w : Bool) (n : Nat) (x0 : ByteArray) (x3 : Int) (x4 : Int) (x5 : Bool) (x15 : Int) (x16 : Int) := execL R k w [] A_level_Name_j2 (AExit × St) ⟨[(0, .fz (FV.str x0)), (3, .fz (FV.int .i64 x3)), (4, .fz (FV.int .u8 x4)), (5, .fz (FV.bool x5)), (15, .fz (FV.int .i64 x15)), (16, .fz (FV.int .i64 x16))], [(4095, .dead)]⟩ (kBlk 1 (kSeq R k w [] A_level_Name_s3 (kLoop R k w [] [0, 15, 16] [2] A_level_Name_b1 n)))
def X_level_Name_1_0 : St := ⟨[], [(4095, .dead)]⟩
def J_level_Name_1_0 (R : Orc) (k : Nat) (w : Bool) (n : Nat) (x0 : ByteArray) (x3 : Int) (x5 : Bool) (x6 : Bool) (x15 : Int) (x16 : Int) := execL R k w [] A_level_Name_j1 (AExit × St) ⟨[(0, .fz (FV.str x0)), (3, .fz (FV.int .i64 x3)), (5, .fz (FV.bool x5)), (6, .fz (FV.bool x6)), (15, .fz (FV.int .i64 x15)), (16, .fz (FV.int .i64 x16))], [(4095, .dead)]⟩ (kBlk 1 (kSeq R k w [] A_level_Name_s3 (kLoop R k w [] [0, 15, 16] [2] A_level_Name_b1 n)))
def X_level_Name_1_1 (x2 : Bool) : St := ⟨[(2, .fz (FV.bool x2))], [(4095, .dead)]⟩
theorem E_level_Name (R : Orc) (k : Nat) (w : Bool) (a0 : ByteArray) : callL R k w A_level_Name [.fz (FV.str a0)] = ifB (ByteArray.toList a0 == ByteArray.toList (⟨#[]⟩ : ByteArray))
  (some ([.fz (FV.bool false)], []))
  (ifB (decide ((ByteArray.size a0 : Int) > 16))
   (some ([.fz (FV.bool false)], []))
   (jump w (J_level_Name_5_0 R k w a0))) := by kernel_rfl
theorem J_level_Name_5_0_eq (R : Orc) (k : Nat) (w : Bool) (x0 : ByteArray) : J_level_Name_5_0 R k w x0 = onL (L_level_Name_1_0 R k w k x0 (ByteArray.size x0 : Int) 0) (K_level_Name_1 R k w) := by kernel_rfl
theorem L_level_Name_1_0_eq (R : Orc) (k : Nat) (w : Bool) (n : Nat) (x0 : ByteArray) (x15 : Int) (x16 : Int) : L_level_Name_1_0 R k w (n + 1) x0 x15 x16 = ifB (decide (x16 < x15))
  (when ((decide (0 ≤ x16)) && (decide (x16 < (ByteArray.size x0 : Int)))) (ifB (decide ((((Array.getD (ByteArray.data x0) (Int.toNat x16) 0).toNat : Nat) : Int) ≥ 97))
   (jump w (J_level_Name_2_0 R k w n x0 x16 (((Array.getD (ByteArray.data x0) (Int.toNat x16) 0).toNat : Nat) : Int) (decide ((((Array.getD (ByteArray.data x0) (Int.toNat x16) 0).toNat : Nat) : Int) ≤ 122)) x15 x16))
   (jump w (J_level_Name_2_0 R k w n x0 x16 (((Array.getD (ByteArray.data x0) (Int.toNat x16) 0).toNat : Nat) : Int) false x15 x16))))
  (some ((.exit 0), X_level_Name_1_0)) := by kernel_rfl
theorem J_level_Name_2_0_eq (R : Orc) (k : Nat) (w : Bool) (n : Nat) (x0 : ByteArray) (x3 : Int) (x4 : Int) (x5 : Bool) (x15 : Int) (x16 : Int) : J_level_Name_2_0 R k w n x0 x3 x4 x5 x15 x16 = ifB (decide (x4 ≥ 48))
  (jump w (J_level_Name_1_0 R k w n x0 x3 x5 (decide (x4 ≤ 57)) x15 x16))
  (jump w (J_level_Name_1_0 R k w n x0 x3 x5 false x15 x16)) := by kernel_rfl
theorem X_level_Name_1_0_eq (R : Orc) (k : Nat) (w : Bool) : K_level_Name_1 R k w (.exit 0) (X_level_Name_1_0) = some ([.fz (FV.bool true)], []) := by kernel_rfl
theorem J_level_Name_1_0_eq (R : Orc) (k : Nat) (w : Bool) (n : Nat) (x0 : ByteArray) (x3 : Int) (x5 : Bool) (x6 : Bool) (x15 : Int) (x16 : Int) : J_level_Name_1_0 R k w n x0 x3 x5 x6 x15 x16 = ifB (!x5)
  (ifB (!x6)
   (some (.ret, X_level_Name_1_1 false))
   (ifB (x3 == 0)
    (some (.ret, X_level_Name_1_1 false))
    (L_level_Name_1_0 R k w n x0 x15 (IntKind.wrap .i64 (x16 + 1)))))
  (L_level_Name_1_0 R k w n x0 x15 (IntKind.wrap .i64 (x16 + 1))) := by kernel_rfl
theorem X_level_Name_1_1_eq (R : Orc) (k : Nat) (w : Bool) (x2 : Bool) : K_level_Name_1 R k w .ret (X_level_Name_1_1 x2) = some ([.fz (FV.bool x2)], []) := by kernel_rfl
/-! keyhole/keyholeref01.Name -/
def A_ref01_Name_b1 : ACode := .seq (.seq (.region [⟨(some 22), .mov (.t 3), none, some (.int .i64)⟩,
   ⟨(some 23), .mov (.t 0), none, some .str⟩,
   ⟨(some 24), .len .str (.t 23), none, some (.int .i64)⟩,
   ⟨(some 25), .binI .lss .i64 (.t 22) (.t 24), none, some .bool⟩])
  (.cond (.t 25) (.skip)
   (.exit 0)))
 (.seq (.block 1 (.seq (.region [⟨(some 28), .mov (.t 0), none, some .str⟩,
     ⟨(some 29), .mov (.t 3), none, some (.int .i64)⟩,
     ⟨(some 30), .index .str (.t 28) (.t 29), none, some (.int .u8)⟩,
     ⟨(some 31), .binI .geq .u8 (.t 30) (.c (.fz (.int .u8 97))), none, some .bool⟩,
     ⟨(some 32), .mov (.t 31), none, some .bool⟩,
     ⟨(some 33), .mov (.t 0), (some (32, true)), some .str⟩,
     ⟨(some 34), .mov (.t 3), (some (32, true)), some (.int .i64)⟩,
     ⟨(some 35), .index .str (.t 33) (.t 34), (some (32, true)), some (.int .u8)⟩,
     ⟨(some 36), .binI .leq .u8 (.t 35) (.c (.fz (.int .u8 122))), (some (32, true)), some .bool⟩,
     ⟨(some 37), .pick (.t 32) (.t 36) (.c (.fz (.bool false))), none, some .bool⟩,
     ⟨(some 38), .mov (.t 37), none, some .bool⟩,
     ⟨(some 39), .mov (.t 0), (some (38, false)), some .str⟩,
     ⟨(some 40), .mov (.t 3), (some (38, false)), some (.int .i64)⟩,
     ⟨(some 41), .index .str (.t 39) (.t 40), (some (38, false)), some (.int .u8)⟩,
     ⟨(some 42), .binI .geq .u8 (.t 41) (.c (.fz (.int .u8 48))), (some (38, false)), some .bool⟩,
     ⟨(some 43), .mov (.t 42), (some (38, false)), some .bool⟩,
     ⟨(some 44), .mov (.t 0), (some (43, true)), some .str⟩,
     ⟨(some 45), .mov (.t 3), (some (43, true)), some (.int .i64)⟩,
     ⟨(some 46), .index .str (.t 44) (.t 45), (some (43, true)), some (.int .u8)⟩,
     ⟨(some 47), .binI .leq .u8 (.t 46) (.c (.fz (.int .u8 57))), (some (43, true)), some .bool⟩,
     ⟨(some 48), .pick (.t 43) (.t 47) (.c (.fz (.bool false))), (some (38, false)), some .bool⟩,
     ⟨(some 49), .pick (.t 38) (.c (.fz (.bool true))) (.t 48), none, some .bool⟩,
     ⟨(some 50), .notB (.t 49), none, some .bool⟩])
    (.cond (.t 50) (.seq (.region [⟨(some 2), .mov (.c (.fz (.bool false))), none, some .bool⟩])
      (.ret))
     (.skip))))
  (.region [⟨(some 26), .mov (.t 3), none, some (.int .i64)⟩,
   ⟨(some 27), .binI .add .i64 (.t 26) (.c (.fz (.int .i64 1))), none, some (.int .i64)⟩,
   ⟨(some 3), .mov (.t 27), none, some (.int .i64)⟩]))
def A_ref01_Name_s1 : ACode := .seq (.region [⟨(some 2), .mov (.c (.fz (.bool true))), none, some .bool⟩])
 (.ret)
def A_ref01_Name_j2 : ACode := .seq (.seq (.region [⟨(some 3), .mov (.c (.fz (.int .i64 0))), none, some (.int .i64)⟩])
  (.block 0 (.loop [0, 3] [2] A_ref01_Name_b1)))
 A_ref01_Name_s1
def A_ref01_Name : AFunc := ⟨1, [(.tmp 2, .fz)], .seq (.region [⟨(some 2), .mov (.c (.fz (.bool false))), none, some .bool⟩])
 (.seq (.seq (.region [⟨(some 4), .mov (.t 0), none, some .str⟩,
    ⟨(some 5), .len .str (.t 4), none, some (.int .i64)⟩,
    ⟨(some 6), .binI .lss .i64 (.t 5) (.c (.fz (.int .i64 1))), none, some .bool⟩,
    ⟨(some 7), .mov (.t 6), none, some .bool⟩,
    ⟨(some 8), .mov (.t 0), (some (7, false)), some .str⟩,
    ⟨(some 9), .len .str (.t 8), (some (7, false)), some (.int .i64)⟩,
    ⟨(some 10), .binI .gtr .i64 (.t 9) (.c (.fz (.int .i64 16))), (some (7, false)), some .bool⟩,
    ⟨(some 11), .pick (.t 7) (.c (.fz (.bool true))) (.t 10), none, some .bool⟩,
    ⟨(some 12), .mov (.t 11), none, some .bool⟩,
    ⟨(some 13), .mov (.t 0), (some (12, false)), some .str⟩,
    ⟨(some 14), .index .str (.t 13) (.c (.fz (.int .i64 0))), (some (12, false)), some (.int .u8)⟩,
    ⟨(some 15), .binI .lss .u8 (.t 14) (.c (.fz (.int .u8 97))), (some (12, false)), some .bool⟩,
    ⟨(some 16), .pick (.t 12) (.c (.fz (.bool true))) (.t 15), none, some .bool⟩,
    ⟨(some 17), .mov (.t 16), none, some .bool⟩,
    ⟨(some 18), .mov (.t 0), (some (17, false)), some .str⟩,
    ⟨(some 19), .index .str (.t 18) (.c (.fz (.int .i64 0))), (some (17, false)), some (.int .u8)⟩,
    ⟨(some 20), .binI .gtr .u8 (.t 19) (.c (.fz (.int .u8 122))), (some (17, false)), some .bool⟩,
    ⟨(some 21), .pick (.t 17) (.c (.fz (.bool true))) (.t 20), none, some .bool⟩])
   (.cond (.t 21) (.seq (.region [⟨(some 2), .mov (.c (.fz (.bool false))), none, some .bool⟩])
     (.ret))
    (.skip)))
  (.trim [0] A_ref01_Name_j2))⟩
def J_ref01_Name_2_0 (R : Orc) (k : Nat) (w : Bool) (x0 : ByteArray) := execL R k w [] A_ref01_Name_j2 Ans ⟨[(0, .fz (FV.str x0))], [(4095, .dead)]⟩ (kFin R [(.tmp 2, .fz)] [])
def K_ref01_Name_1 (R : Orc) (k : Nat) (w : Bool) : AExit → St → Option Ans := (kBlk 0 (kSeq R k w [] A_ref01_Name_s1 (kFin R [(.tmp 2, .fz)] [])))
def L_ref01_Name_1_0 (R : Orc) (k : Nat) (w : Bool) (n : Nat) (x0 : ByteArray) (x3 : Int) := loopL R k w [] [0, 3] [2] A_ref01_Name_b1 n ⟨[(0, .fz (FV.str x0)), (3, .fz (FV.int .i64 x3))], [(4095, .dead)]⟩
def X_ref01_Name_1_0 (x2 : Bool) : St := ⟨[(2, .fz (FV.bool x2))], [(4095, .dead)]⟩
def X_ref01_Name_1_1 : St := ⟨[], [(4095, .dead)]⟩
theorem E_ref01_Name (R : Orc) (k : Nat) (w : Bool) (a0 : ByteArray) : callL R k w A_ref01_Name [.fz (FV.str a0)] = ifB (decide ((ByteArray.size a0 : Int) < 1))
  (some ([.fz (FV.bool false)], []))
  (ifB (decide ((ByteArray.size a0 : Int) > 16))
   (some ([.fz (FV.bool false)], []))
   (when (decide (0 < (ByteArray.size a0 : Int))) (ifB (decide ((((Array.getD (ByteArray.data a0) 0 0).toNat : Nat) : Int) < 97))
    (some ([.fz (FV.bool false)], []))
    (when (decide (0 < (ByteArray.size a0 : Int))) (ifB (decide ((((Array.getD (ByteArray.data a0) 0 0).toNat : Nat) : Int) > 122))
     (some ([.fz (FV.bool false)], []))
     (jump w (J_ref01_Name_2_0 R k w a0))))))) := by kernel_rfl
theorem J_ref01_Name_2_0_eq (R : Orc) (k : Nat) (w : Bool) (x0 : ByteArray) : J_ref01_Name_2_0 R k w x0 = onL (L_ref01_Name_1_0 R k w k x0 0) (K_ref01_Name_1 R k w) := by kernel_rfl
theorem L_ref01_Name_1_0_eq (R : Orc) (k : Nat) (w : Bool) (n : Nat) (x0 : ByteArray) (x3 : Int) : L_ref01_Name_1_0 R k w (n + 1) x0 x3 = ifB (decide (x3 < (ByteArray.size x0 : Int)))
  (when ((decide (0 ≤ x3)) && (decide (x3 < (ByteArray.size x0 : Int)))) (ifB (decide ((((Array.getD (ByteArray.data x0) (Int.toNat x3) 0).toNat : Nat) : Int) ≥ 97))
   (when ((decide (0 ≤ x3)) && (decide (x3 < (ByteArray.size x0 : Int)))) (ifB (decide ((((Array.getD (ByteArray.data x0) (Int.toNat x3) 0).toNat : Nat) : Int) ≤ 122))
    (L_ref01_Name_1_0 R k w n x0 (IntKind.wrap .i64 (x3 + 1)))
    (when ((decide (0 ≤ x3)) && (decide (x3 < (ByteArray.size x0 : Int)))) (ifB (decide ((((Array.getD (ByteArray.data x0) (Int.toNat x3) 0).toNat : Nat) : Int) ≥ 48))
     (when ((decide (0 ≤ x3)) && (decide (x3 < (ByteArray.size x0 : Int)))) (ifB (!(decide ((((Array.getD (ByteArray.data x0) (Int.toNat x3) 0).toNat : Nat) : Int) ≤ 57)))
      (some (.ret, X_ref01_Name_1_0 false))
      (L_ref01_Name_1_0 R k w n x0 (IntKind.wrap .i64 (x3 + 1)))))
     (some (.ret, X_ref01_Name_1_0 false))))))
   (when ((decide (0 ≤ x3)) && (decide (x3 < (ByteArray.size x0 : Int)))) (ifB (decide ((((Array.getD (ByteArray.data x0) (Int.toNat x3) 0).toNat : Nat) : Int) ≥ 48))
    (when ((decide (0 ≤ x3)) && (decide (x3 < (ByteArray.size x0 : Int)))) (ifB (!(decide ((((Array.getD (ByteArray.data x0) (Int.toNat x3) 0).toNat : Nat) : Int) ≤ 57)))
     (some (.ret, X_ref01_Name_1_0 false))
     (L_ref01_Name_1_0 R k w n x0 (IntKind.wrap .i64 (x3 + 1)))))
    (some (.ret, X_ref01_Name_1_0 false))))))
  (some ((.exit 0), X_ref01_Name_1_1)) := by kernel_rfl
theorem X_ref01_Name_1_0_eq (R : Orc) (k : Nat) (w : Bool) (x2 : Bool) : K_ref01_Name_1 R k w .ret (X_ref01_Name_1_0 x2) = some ([.fz (FV.bool x2)], []) := by kernel_rfl
theorem X_ref01_Name_1_1_eq (R : Orc) (k : Nat) (w : Bool) : K_ref01_Name_1 R k w (.exit 0) (X_ref01_Name_1_1) = some ([.fz (FV.bool true)], []) := by kernel_rfl
/-! keyhole/keyholeref01.Table -/
def A_ref01_Table_b1 : ACode := .seq (.seq (.region [⟨(some 27), .mov (.t 8), none, some (.int .i64)⟩,
   ⟨(some 28), .fadr 1 (.t 1), none, none⟩,
   ⟨(some 29), .load 1 false (.t 28), none, none⟩,
   ⟨(some 30), .len (.sl 2 true) (.t 29), none, some (.int .i64)⟩,
   ⟨(some 31), .binI .lss .i64 (.t 27) (.t 30), none, some .bool⟩])
  (.cond (.t 31) (.skip)
   (.exit 4)))
 (.seq (.block 5 (.seq (.region [⟨(some 34), .mov (.t 6), none, none⟩,
     ⟨(some 35), .fadr 1 (.t 1), none, none⟩,
     ⟨(some 36), .load 1 false (.t 35), none, none⟩,
     ⟨(some 37), .mov (.t 8), none, some (.int .i64)⟩,
     ⟨(some 38), .iadr (.sl 2 true) (.t 36) (.t 37), none, none⟩,
     ⟨(some 39), .iadr (.arr 2 1 false) (.t 38) (.c (.fz (.int .i64 0))), none, none⟩,
     ⟨(some 40), .load 1 false (.t 39), none, some (.int .i64)⟩,
     ⟨(some 41), .iadr (.sl 1 false) (.t 34) (.t 40), none, none⟩,
     ⟨(some 42), .load 1 false (.t 41), none, some .bool⟩])
    (.cond (.t 42) (.region [⟨(some 43), .mov (.t 6), none, none⟩,
      ⟨(some 44), .fadr 1 (.t 1), none, none⟩,
      ⟨(some 45), .load 1 false (.t 44), none, none⟩,
      ⟨(some 46), .mov (.t 8), none, some (.int .i64)⟩,
      ⟨(some 47), .iadr (.sl 2 true) (.t 45) (.t 46), none, none⟩,
      ⟨(some 48), .iadr (.arr 2 1 false) (.t 47) (.c (.fz (.int .i64 1))), none, none⟩,
      ⟨(some 49), .load 1 false (.t 48), none, some (.int .i64)⟩,
      ⟨(some 50), .iadr (.sl 1 false) (.t 43) (.t 49), none, none⟩,
      ⟨none, .store 1 false (.t 50) (.c (.fz (.bool true))), none, none⟩])
     (.skip))))
  (.region [⟨(some 32), .mov (.t 8), none, some (.int .i64)⟩,
   ⟨(some 33), .binI .add .i64 (.t 32) (.c (.fz (.int .i64 1))), none, some (.int .i64)⟩,
   ⟨(some 8), .mov (.t 33), none, some (.int .i64)⟩]))
def A_ref01_Table_s1 : ACode := .region [⟨(some 25), .mov (.t 7), none, some (.int .i64)⟩,
 ⟨(some 26), .binI .add .i64 (.t 25) (.c (.fz (.int .i64 1))), none, some (.int .i64)⟩,
 ⟨(some 7), .mov (.t 26), none, some (.int .i64)⟩]
def A_ref01_Table_b2 : ACode := .seq (.seq (.region [⟨(some 22), .mov (.t 7), none, some (.int .i64)⟩,
   ⟨(some 23), .mov (.t 3), none, some (.int .i64)⟩,
   ⟨(some 24), .binI .lss .i64 (.t 22) (.t 23), none, some .bool⟩])
  (.cond (.t 24) (.skip)
   (.exit 2)))
 (.seq (.block 3 (.seq (.region [⟨(some 8), .mov (.c (.fz (.int .i64 0))), none, some (.int .i64)⟩])
    (.block 4 (.loop [1, 3, 4, 5, 6, 7, 8] [1, 3, 4, 5, 6, 7] A_ref01_Table_b1))))
  A_ref01_Table_s1)
def A_ref01_Table_s2 : ACode := .region [⟨(some 51), .mov (.t 4), none, none⟩,
 ⟨(some 52), .mov (.t 6), none, none⟩,
 ⟨(some 53), .buildSl 1 false 1 (.sl []) [(0, (.t 52))], none, none⟩,
 ⟨(some 54), .append 1 false 24 false (.t 51) (.t 53), none, none⟩,
 ⟨(some 4), .mov (.t 54), none, none⟩]
def A_ref01_Table_s3 : ACode := .region [⟨(some 15), .mov (.t 5), none, some (.int .i64)⟩,
 ⟨(some 16), .binI .add .i64 (.t 15) (.c (.fz (.int .i64 1))), none, some (.int .i64)⟩,
 ⟨(some 5), .mov (.t 16), none, some (.int .i64)⟩]
def A_ref01_Table_b3 : ACode := .seq (.seq (.region [⟨(some 12), .mov (.t 5), none, some (.int .i64)⟩,
   ⟨(some 13), .mov (.t 3), none, some (.int .i64)⟩,
   ⟨(some 14), .binI .lss .i64 (.t 12) (.t 13), none, some .bool⟩])
  (.cond (.t 14) (.skip)
   (.exit 0)))
 (.seq (.block 1 (.seq (.region [⟨(some 17), .mov (.t 3), none, some (.int .i64)⟩,
     ⟨(some 18), .mkSl 1 false 1 (.bool false) (.t 17) (.t 17), none, none⟩,
     ⟨(some 6), .mov (.t 18), none, none⟩])
    (.seq (.region [⟨(some 19), .mov (.t 6), none, none⟩,
      ⟨(some 20), .mov (.t 5), none, some (.int .i64)⟩,
      ⟨(some 21), .iadr (.sl 1 false) (.t 19) (.t 20), none, none⟩,
      ⟨none, .store 1 false (.t 21) (.c (.fz (.bool true))), none, none⟩])
     (.seq (.seq (.region [⟨(some 7), .mov (.c (.fz (.int .i64 0))), none, some (.int .i64)⟩])
       (.block 2 (.loop [1, 3, 4, 5, 6, 7] [1, 3, 4, 5, 6] A_ref01_Table_b2)))
      A_ref01_Table_s2))))
  A_ref01_Table_s3)
def A_ref01_Table_s4 : ACode := .seq (.region [⟨(some 55), .mov (.t 4), none, none⟩,
  ⟨(some 2), .mov (.t 55), none, none⟩])
 (.ret)
def A_ref01_Table : AFunc := ⟨1, [(.tmp 2, .fz)], .seq (.region [⟨(some 1), .box 3 true (.t 0), none, none⟩,
  ⟨(some 2), .mov (.c (.nils)), none, none⟩])
 (.seq (.region [⟨(some 9), .fadr 0 (.t 1), none, none⟩,
   ⟨(some 10), .load 1 false (.t 9), none, none⟩,
   ⟨(some 11), .len (.sl 1 false) (.t 10), none, some (.int .i64)⟩,
   ⟨(some 3), .mov (.t 11), none, some (.int .i64)⟩])
  (.seq (.region [⟨(some 4), .mov (.c (.nils)), none, none⟩])
   (.seq (.seq (.region [⟨(some 5), .mov (.c (.fz (.int .i64 0))), none, some (.int .i64)⟩])
     (.block 0 (.loop [1, 3, 4, 5] [4] A_ref01_Table_b3)))
    A_ref01_Table_s4)))⟩
def K_ref01_Table_3 (R : Orc) (k : Nat) (w : Bool) : AExit → St → Option Ans := (kBlk 0 (kSeq R k w [] A_ref01_Table_s4 (kFin R [(.tmp 2, .fz)] [])))
def L_ref01_Table_3_0 (R : Orc) (k : Nat) (w : Bool) (n : Nat) (x3 : Int) (x5 : Int) (h4096_0 : List FV) (h4096_1 : List FV) (h4096_2 : List FV) := loopL R k w [] [1, 3, 4, 5] [4] A_ref01_Table_b3 n ⟨[(1, .ptr 4096 0 0), (3, .fz (FV.int .i64 x3)), (4, .nils), (5, .fz (FV.int .i64 x5))], [(4095, .dead), (4096, .var 3 true (.fz (FV.ag [(FV.sl h4096_0), (FV.sl h4096_1), (FV.sl h4096_2)])))]⟩
def K_ref01_Table_2 (R : Orc) (k : Nat) (w : Bool) (n : Nat) : AExit → St → Option (AExit × St) := (kBlk 2 (kSeq R k w [] A_ref01_Table_s2 (kBlk 1 (kSeq R k w [] A_ref01_Table_s3 (kLoop R k w [] [1, 3, 4, 5] [4] A_ref01_Table_b3 n)))))
def L_ref01_Table_2_0 (R : Orc) (k : Nat) (w : Bool) (n : Nat) (x3 : Int) (x5 : Int) (x7 : Int) (h4096_0 : List FV) (h4096_1 : List FV) (h4096_2 : List FV) (h4097 : List FV) := loopL R k w [] [1, 3, 4, 5, 6, 7] [1, 3, 4, 5, 6] A_ref01_Table_b2 n ⟨[(1, .ptr 4096 0 0), (3, .fz (FV.int .i64 x3)), (4, .nils), (5, .fz (FV.int .i64 x5)), (6, .rw 4097), (7, .fz (FV.int .i64 x7))], [(4095, .dead), (4096, .var 3 true (.fz (FV.ag [(FV.sl h4096_0), (FV.sl h4096_1), (FV.sl h4096_2)]))), (4097, .row 1 false h4097)]⟩
def X_ref01_Table_3_0 : St := ⟨[(4, .nils)], [(4095, .dead)]⟩
def K_ref01_Table_1 (R : Orc) (k : Nat) (w : Bool) (n : Nat) : AExit → St → Option (AExit × St) := (kBlk 4 (kBlk 3 (kSeq R k w [] A_ref01_Table_s1 (kLoop R k w [] [1, 3, 4, 5, 6, 7] [1, 3, 4, 5, 6] A_ref01_Table_b2 n))))
def L_ref01_Table_1_0 (R : Orc) (k : Nat) (w : Bool) (n : Nat) (x3 : Int) (x5 : Int) (x7 : Int) (x8 : Int) (h4096_0 : List FV) (h4096_1 : List FV) (h4096_2 : List FV) (h4097 : List FV) := loopL R k w [] [1, 3, 4, 5, 6, 7, 8] [1, 3, 4, 5, 6, 7] A_ref01_Table_b1 n ⟨[(1, .ptr 4096 0 0), (3, .fz (FV.int .i64 x3)), (4, .nils), (5, .fz (FV.int .i64 x5)), (6, .rw 4097), (7, .fz (FV.int .i64 x7)), (8, .fz (FV.int .i64 x8))], [(4095, .dead), (4096, .var 3 true (.fz (FV.ag [(FV.sl h4096_0), (FV.sl h4096_1), (FV.sl h4096_2)]))), (4097, .row 1 false h4097)]⟩
def X_ref01_Table_2_0 (x3 : Int) (x5 : Int) (h4096_0 : List FV) (h4096_1 : List FV) (h4096_2 : List FV) (h4097 : List FV) : St := ⟨[(1, .ptr 4096 0 0), (3, .fz (FV.int .i64 x3)), (4, .nils), (5, .fz (FV.int .i64 x5)), (6, .rw 4097)], [(4095, .dead), (4096, .var 3 true (.fz (FV.ag [(FV.sl h4096_0), (FV.sl h4096_1), (FV.sl h4096_2)]))), (4097, .row 1 false h4097)]⟩
def X_ref01_Table_1_0 (x3 : Int) (x5 : Int) (x7 : Int) (h4096_0 : List FV) (h4096_1 : List FV) (h4096_2 : List FV) (h4097 : List FV) : St := ⟨[(1, .ptr 4096 0 0), (3, .fz (FV.int .i64 x3)), (4, .nils), (5, .fz (FV.int .i64 x5)), (6, .rw 4097), (7, .fz (FV.int .i64 x7))], [(4095, .dead), (4096, .var 3 true (.fz (FV.ag [(FV.sl h4096_0), (FV.sl h4096_1), (FV.sl h4096_2)]))), (4097, .row 1 false h4097)]⟩
def L_ref01_Table_3_1 (R : Orc) (k : Nat) (w : Bool) (n : Nat) (x3 : Int) (x5 : Int) (h4096_0 : List FV) (h4096_1 : List FV) (h4096_2 : List FV) (h4097 : List FV) := loopL R k w [] [1, 3, 4, 5] [4] A_ref01_Table_b3 n ⟨[(1, .ptr 4096 0 0), (3, .fz (FV.int .i64 x3)), (4, .rw 4097), (5, .fz (FV.int .i64 x5))], [(4095, .dead), (4096, .var 3 true (.fz (FV.ag [(FV.sl h4096_0), (FV.sl h4096_1), (FV.sl h4096_2)]))), (4097, .row 1 false h4097)]⟩
def L_ref01_Table_2_1 (R : Orc) (k : Nat) (w : Bool) (n : Nat) (x3 : Int) (x5 : Int) (x7 : Int) (h4096_0 : List FV) (h4096_1 : List FV) (h4096_2 : List FV) (h4097 : List FV) (h4098 : List FV) := loopL R k w [] [1, 3, 4, 5, 6, 7] [1, 3, 4, 5, 6] A_ref01_Table_b2 n ⟨[(1, .ptr 4096 0 0), (3, .fz (FV.int .i64 x3)), (4, .rw 4097), (5, .fz (FV.int .i64 x5)), (6, .rw 4098), (7, .fz (FV.int .i64 x7))], [(4095, .dead), (4096, .var 3 true (.fz (FV.ag [(FV.sl h4096_0), (FV.sl h4096_1), (FV.sl h4096_2)]))), (4097, .row 1 false h4097), (4098, .row 1 false h4098)]⟩
def X_ref01_Table_3_1 (h4096 : List FV) : St := ⟨[(4, .rw 4096)], [(4095, .dead), (4096, .row 1 false h4096)]⟩
def L_ref01_Table_1_1 (R : Orc) (k : Nat) (w : Bool) (n : Nat) (x3 : Int) (x5 : Int) (x7 : Int) (x8 : Int) (h4096_0 : List FV) (h4096_1 : List FV) (h4096_2 : List FV) (h4097 : List FV) (h4098 : List FV) := loopL R k w [] [1, 3, 4, 5, 6, 7, 8] [1, 3, 4, 5, 6, 7] A_ref01_Table_b1 n ⟨[(1, .ptr 4096 0 0), (3, .fz (FV.int .i64 x3)), (4, .rw 4097), (5, .fz (FV.int .i64 x5)), (6, .rw 4098), (7, .fz (FV.int .i64 x7)), (8, .fz (FV.int .i64 x8))], [(4095, .dead), (4096, .var 3 true (.fz (FV.ag [(FV.sl h4096_0), (FV.sl h4096_1), (FV.sl h4096_2)]))), (4097, .row 1 false h4097), (4098, .row 1 false h4098)]⟩
def X_ref01_Table_2_1 (x3 : Int) (x5 : Int) (h4096_0 : List FV) (h4096_1 : List FV) (h4096_2 : List FV) (h4097 : List FV) (h4098 : List FV) : St := ⟨[(1, .ptr 4096 0 0), (3, .fz (FV.int .i64 x3)), (4, .rw 4097), (5, .fz (FV.int .i64 x5)), (6, .rw 4098)], [(4095, .dead), (4096, .var 3 true (.fz (FV.ag [(FV.sl h4096_0), (FV.sl h4096_1), (FV.sl h4096_2)]))), (4097, .row 1 false h4097), (4098, .row 1 false h4098)]⟩
def X_ref01_Table_1_1 (x3 : Int) (x5 : Int) (x7 : Int) (h4096_0 : List FV) (h4096_1 : List FV) (h4096_2 : List FV) (h4097 : List FV) (h4098 : List FV) : St := ⟨[(1, .ptr 4096 0 0), (3, .fz (FV.int .i64 x3)), (4, .rw 4097), (5, .fz (FV.int .i64 x5)), (6, .rw 4098), (7, .fz (FV.int .i64 x7))], [(4095, .dead), (4096, .var 3 true (.fz (FV.ag [(FV.sl h4096_0), (FV.sl h4096_1), (FV.sl h4096_2)]))), (4097, .row 1 false h4097), (4098, .row 1 false h4098)]⟩
theorem E_ref01_Table (R : Orc) (k : Nat) (w : Bool) (a0_0 : List FV) (a0_1 : List FV) (a0_2 : List FV) : callL R k w A_ref01_Table [.fz (FV.ag [(FV.sl a0_0), (FV.sl a0_1), (FV.sl a0_2)])] = onL (L_ref01_Table_3_0 R k w k (List.length a0_0 : Int) 0 a0_0 a0_1 a0_2) (K_ref01_Table_3 R k w) := by kernel_rfl
theorem L_ref01_Table_3_0_eq (R : Orc) (k : Nat) (w : Bool) (n : Nat) (x3 : Int) (x5 : Int) (h4096_0 : List FV) (h4096_1 : List FV) (h4096_2 : List FV) : L_ref01_Table_3_0 R k w (n + 1) x3 x5 h4096_0 h4096_1 h4096_2 = ifB (decide (x5 < x3))
  (when (decide (0 ≤ x3) && (decide (x3 ≤ x3) && (decide (1 * x3 ≤ roomy) && decide (x3 ≤ roomy)))) (when ((decide (0 ≤ x5)) && (decide (x5 < (List.length (List.replicate (Int.toNat x3) (FV.bool false)) : Int)))) (when (Nat.blt (Int.toNat x5) (List.length (List.replicate (Int.toNat x3) (FV.bool false)))) (onL (L_ref01_Table_2_0 R k w k x3 x5 0 h4096_0 h4096_1 h4096_2 (List.set (List.replicate (Int.toNat x3) (FV.bool false)) (Int.toNat x5) (FV.bool true))) (K_ref01_Table_2 R k w n)))))
  (some ((.exit 0), X_ref01_Table_3_0)) := by kernel_rfl
theorem L_ref01_Table_2_0_eq (R : Orc) (k : Nat) (w : Bool) (n : Nat) (x3 : Int) (x5 : Int) (x7 : Int) (h4096_0 : List FV) (h4096_1 : List FV) (h4096_2 : List FV) (h4097 : List FV) : L_ref01_Table_2_0 R k w (n + 1) x3 x5 x7 h4096_0 h4096_1 h4096_2 h4097 = ifB (decide (x7 < x3))
  (onL (L_ref01_Table_1_0 R k w k x3 x5 x7 0 h4096_0 h4096_1 h4096_2 h4097) (K_ref01_Table_1 R k w n))
  (some ((.exit 2), X_ref01_Table_2_0 x3 x5 h4096_0 h4096_1 h4096_2 h4097)) := by kernel_rfl
theorem X_ref01_Table_3_0_eq (R : Orc) (k : Nat) (w : Bool) : K_ref01_Table_3 R k w (.exit 0) (X_ref01_Table_3_0) = some ([.fz (FV.sl [])], []) := by kernel_rfl
theorem L_ref01_Table_1_0_eq (R : Orc) (k : Nat) (w : Bool) (n : Nat) (x3 : Int) (x5 : Int) (x7 : Int) (x8 : Int) (h4096_0 : List FV) (h4096_1 : List FV) (h4096_2 : List FV) (h4097 : List FV) : L_ref01_Table_1_0 R k w (n + 1) x3 x5 x7 x8 h4096_0 h4096_1 h4096_2 h4097 = ifB (decide (x8 < (List.length h4096_1 : Int)))
  (when ((decide (0 ≤ x8)) && (decide (x8 < (List.length h4096_1 : Int)))) (when (FV.fits 2 true (List.getD h4096_1 (Int.toNat x8) FV.nilp)) (when (FV.isAg 2 (List.getD h4096_1 (Int.toNat x8) FV.nilp)) (when (FV.isInt .i64 (FV.cell (List.getD h4096_1 (Int.toNat x8) FV.nilp) 0)) (when ((decide (0 ≤ (FV.toInt (FV.cell (List.getD h4096_1 (Int.toNat x8) FV.nilp) 0)))) && (decide ((FV.toInt (FV.cell (List.getD h4096_1 (Int.toNat x8) FV.nilp) 0)) < (List.length h4097 : Int)))) (when (Nat.blt (Int.toNat (FV.toInt (FV.cell (List.getD h4096_1 (Int.toNat x8) FV.nilp) 0))) (List.length h4097)) (when (FV.isBool (List.getD h4097 (Int.toNat (FV.toInt (FV.cell (List.getD h4096_1 (Int.toNat x8) FV.nilp) 0))) FV.nilp)) (ifB (FV.toBool (List.getD h4097 (Int.toNat (FV.toInt (FV.cell (List.getD h4096_1 (Int.toNat x8) FV.nilp) 0))) FV.nilp))
   (when ((decide (0 ≤ x8)) && (decide (x8 < (List.length h4096_1 : Int)))) (when (FV.fits 2 true (List.getD h4096_1 (Int.toNat x8) FV.nilp)) (when (FV.isAg 2 (List.getD h4096_1 (Int.toNat x8) FV.nilp)) (when (FV.isInt .i64 (FV.cell (List.getD h4096_1 (Int.toNat x8) FV.nilp) 1)) (when ((decide (0 ≤ (FV.toInt (FV.cell (List.getD h4096_1 (Int.toNat x8) FV.nilp) 1)))) && (decide ((FV.toInt (FV.cell (List.getD h4096_1 (Int.toNat x8) FV.nilp) 1)) < (List.length h4097 : Int)))) (when (Nat.blt (Int.toNat (FV.toInt (FV.cell (List.getD h4096_1 (Int.toNat x8) FV.nilp) 1))) (List.length h4097)) (L_ref01_Table_1_0 R k w n x3 x5 x7 (IntKind.wrap .i64 (x8 + 1)) h4096_0 h4096_1 h4096_2 (List.set h4097 (Int.toNat (FV.toInt (FV.cell (List.getD h4096_1 (Int.toNat x8) FV.nilp) 1))) (FV.bool true)))))))))
   (L_ref01_Table_1_0 R k w n x3 x5 x7 (IntKind.wrap .i64 (x8 + 1)) h4096_0 h4096_1 h4096_2 h4097)))))))))
  (some ((.exit 4), X_ref01_Table_1_0 x3 x5 x7 h4096_0 h4096_1 h4096_2 h4097)) := by kernel_rfl
theorem X_ref01_Table_2_0_eq (R : Orc) (k : Nat) (w : Bool) (n : Nat) (x3 : Int) (x5 : Int) (h4096_0 : List FV) (h4096_1 : List FV) (h4096_2 : List FV) (h4097 : List FV) : K_ref01_Table_2 R k w n (.exit 2) (X_ref01_Table_2_0 x3 x5 h4096_0 h4096_1 h4096_2 h4097) = when (decide (((0 : Nat) + List.length [(FV.sl h4097)]) * 24 ≤ roomy) && decide ((0 : Nat) + List.length [(FV.sl h4097)] ≤ roomy)) (L_ref01_Table_3_1 R k w n x3 (IntKind.wrap .i64 (x5 + 1)) h4096_0 h4096_1 h4096_2 [(FV.sl h4097)]) := by kernel_rfl
theorem X_ref01_Table_1_0_eq (R : Orc) (k : Nat) (w : Bool) (n : Nat) (x3 : Int) (x5 : Int) (x7 : Int) (h4096_0 : List FV) (h4096_1 : List FV) (h4096_2 : List FV) (h4097 : List FV) : K_ref01_Table_1 R k w n (.exit 4) (X_ref01_Table_1_0 x3 x5 x7 h4096_0 h4096_1 h4096_2 h4097) = L_ref01_Table_2_0 R k w n x3 x5 (IntKind.wrap .i64 (x7 + 1)) h4096_0 h4096_1 h4096_2 h4097 := by kernel_rfl
theorem L_ref01_Table_3_1_eq (R : Orc) (k : Nat) (w : Bool) (n : Nat) (x3 : Int) (x5 : Int) (h4096_0 : List FV) (h4096_1 : List FV) (h4096_2 : List FV) (h4097 : List FV) : L_ref01_Table_3_1 R k w (n + 1) x3 x5 h4096_0 h4096_1 h4096_2 h4097 = ifB (decide (x5 < x3))
  (when (decide (0 ≤ x3) && (decide (x3 ≤ x3) && (decide (1 * x3 ≤ roomy) && decide (x3 ≤ roomy)))) (when ((decide (0 ≤ x5)) && (decide (x5 < (List.length (List.replicate (Int.toNat x3) (FV.bool false)) : Int)))) (when (Nat.blt (Int.toNat x5) (List.length (List.replicate (Int.toNat x3) (FV.bool false)))) (onL (L_ref01_Table_2_1 R k w k x3 x5 0 h4096_0 h4096_1 h4096_2 h4097 (List.set (List.replicate (Int.toNat x3) (FV.bool false)) (Int.toNat x5) (FV.bool true))) (K_ref01_Table_2 R k w n)))))
  (some ((.exit 0), X_ref01_Table_3_1 h4097)) := by kernel_rfl
theorem L_ref01_Table_2_1_eq (R : Orc) (k : Nat) (w : Bool) (n : Nat) (x3 : Int) (x5 : Int) (x7 : Int) (h4096_0 : List FV) (h4096_1 : List FV) (h4096_2 : List FV) (h4097 : List FV) (h4098 : List FV) : L_ref01_Table_2_1 R k w (n + 1) x3 x5 x7 h4096_0 h4096_1 h4096_2 h4097 h4098 = ifB (decide (x7 < x3))
  (onL (L_ref01_Table_1_1 R k w k x3 x5 x7 0 h4096_0 h4096_1 h4096_2 h4097 h4098) (K_ref01_Table_1 R k w n))
  (some ((.exit 2), X_ref01_Table_2_1 x3 x5 h4096_0 h4096_1 h4096_2 h4097 h4098)) := by kernel_rfl
theorem X_ref01_Table_3_1_eq (R : Orc) (k : Nat) (w : Bool) (h4096 : List FV) : K_ref01_Table_3 R k w (.exit 0) (X_ref01_Table_3_1 h4096) = some ([.fz (FV.sl h4096)], []) := by kernel_rfl
theorem L_ref01_Table_1_1_eq (R : Orc) (k : Nat) (w : Bool) (n : Nat) (x3 : Int) (x5 : Int) (x7 : Int) (x8 : Int) (h4096_0 : List FV) (h4096_1 : List FV) (h4096_2 : List FV) (h4097 : List FV) (h4098 : List FV) : L_ref01_Table_1_1 R k w (n + 1) x3 x5 x7 x8 h4096_0 h4096_1 h4096_2 h4097 h4098 = ifB (decide (x8 < (List.length h4096_1 : Int)))
  (when ((decide (0 ≤ x8)) && (decide (x8 < (List.length h4096_1 : Int)))) (when (FV.fits 2 true (List.getD h4096_1 (Int.toNat x8) FV.nilp)) (when (FV.isAg 2 (List.getD h4096_1 (Int.toNat x8) FV.nilp)) (when (FV.isInt .i64 (FV.cell (List.getD h4096_1 (Int.toNat x8) FV.nilp) 0)) (when ((decide (0 ≤ (FV.toInt (FV.cell (List.getD h4096_1 (Int.toNat x8) FV.nilp) 0)))) && (decide ((FV.toInt (FV.cell (List.getD h4096_1 (Int.toNat x8) FV.nilp) 0)) < (List.length h4098 : Int)))) (when (Nat.blt (Int.toNat (FV.toInt (FV.cell (List.getD h4096_1 (Int.toNat x8) FV.nilp) 0))) (List.length h4098)) (when (FV.isBool (List.getD h4098 (Int.toNat (FV.toInt (FV.cell (List.getD h4096_1 (Int.toNat x8) FV.nilp) 0))) FV.nilp)) (ifB (FV.toBool (List.getD h4098 (Int.toNat (FV.toInt (FV.cell (List.getD h4096_1 (Int.toNat x8) FV.nilp) 0))) FV.nilp))
   (when ((decide (0 ≤ x8)) && (decide (x8 < (List.length h4096_1 : Int)))) (when (FV.fits 2 true (List.getD h4096_1 (Int.toNat x8) FV.nilp)) (when (FV.isAg 2 (List.getD h4096_1 (Int.toNat x8) FV.nilp)) (when (FV.isInt .i64 (FV.cell (List.getD h4096_1 (Int.toNat x8) FV.nilp) 1)) (when ((decide (0 ≤ (FV.toInt (FV.cell (List.getD h4096_1 (Int.toNat x8) FV.nilp) 1)))) && (decide ((FV.toInt (FV.cell (List.getD h4096_1 (Int.toNat x8) FV.nilp) 1)) < (List.length h4098 : Int)))) (when (Nat.blt (Int.toNat (FV.toInt (FV.cell (List.getD h4096_1 (Int.toNat x8) FV.nilp) 1))) (List.length h4098)) (L_ref01_Table_1_1 R k w n x3 x5 x7 (IntKind.wrap .i64 (x8 + 1)) h4096_0 h4096_1 h4096_2 h4097 (List.set h4098 (Int.toNat (FV.toInt (FV.cell (List.getD h4096_1 (Int.toNat x8) FV.nilp) 1))) (FV.bool true)))))))))
   (L_ref01_Table_1_1 R k w n x3 x5 x7 (IntKind.wrap .i64 (x8 + 1)) h4096_0 h4096_1 h4096_2 h4097 h4098)))))))))
  (some ((.exit 4), X_ref01_Table_1_1 x3 x5 x7 h4096_0 h4096_1 h4096_2 h4097 h4098)) := by kernel_rfl
theorem X_ref01_Table_2_1_eq (R : Orc) (k : Nat) (w : Bool) (n : Nat) (x3 : Int) (x5 : Int) (h4096_0 : List FV) (h4096_1 : List FV) (h4096_2 : List FV) (h4097 : List FV) (h4098 : List FV) : K_ref01_Table_2 R k w n (.exit 2) (X_ref01_Table_2_1 x3 x5 h4096_0 h4096_1 h4096_2 h4097 h4098) = when (decide ((List.length h4097 + List.length [(FV.sl h4098)]) * 24 ≤ roomy) && decide (List.length h4097 + List.length [(FV.sl h4098)] ≤ roomy)) (L_ref01_Table_3_1 R k w n x3 (IntKind.wrap .i64 (x5 + 1)) h4096_0 h4096_1 h4096_2 (h4097 ++ [(FV.sl h4098)])) := by kernel_rfl
theorem X_ref01_Table_1_1_eq (R : Orc) (k : Nat) (w : Bool) (n : Nat) (x3 : Int) (x5 : Int) (x7 : Int) (h4096_0 : List FV) (h4096_1 : List FV) (h4096_2 : List FV) (h4097 : List FV) (h4098 : List FV) : K_ref01_Table_1 R k w n (.exit 4) (X_ref01_Table_1_1 x3 x5 x7 h4096_0 h4096_1 h4096_2 h4097 h4098) = L_ref01_Table_2_1 R k w n x3 x5 (IntKind.wrap .i64 (x7 + 1)) h4096_0 h4096_1 h4096_2 h4097 h4098 := by kernel_rfl
/-! (*keyhole/level.Lattice).Size -/
def A_level_Lattice_Size : AFunc := ⟨1, [(.tmp 2, .fz)], .seq (.region [⟨(some 2), .mov (.c (.fz (.int .i64 0))), none, some (.int .i64)⟩])
 (.seq (.seq (.region [⟨(some 3), .mov (.t 0), none, none⟩,
    ⟨(some 4), .eqNil false (.t 3), none, some .bool⟩])
   (.cond (.t 4) (.seq (.region [⟨(some 2), .mov (.c (.fz (.int .i64 0))), none, some (.int .i64)⟩])
     (.ret))
    (.skip)))
  (.seq (.region [⟨(some 5), .mov (.t 0), none, none⟩,
    ⟨(some 6), .nilck (.t 5), none, none⟩,
    ⟨(some 7), .fadr 0 (.t 6), none, none⟩,
    ⟨(some 8), .load 1 false (.t 7), none, none⟩,
    ⟨(some 9), .len (.sl 1 false) (.t 8), none, some (.int .i64)⟩,
    ⟨(some 2), .mov (.t 9), none, some (.int .i64)⟩])
   (.ret)))⟩
theorem E_level_Lattice_Size (R : Orc) (k : Nat) (w : Bool) (a0 : FV) : callL R k w A_level_Lattice_Size [.fz (FV.pt 195 true a0 0)] = when (FV.isAg 195 a0) (when (FV.isSl (FV.cell a0 0)) (some ([.fz (FV.int .i64 (List.length (FV.toSl (FV.cell a0 0)) : Int))], []))) := by kernel_rfl
theorem E_level_Lattice_Size_v1 (R : Orc) (k : Nat) (w : Bool) : callL R k w A_level_Lattice_Size [.fz FV.nilp] = some ([.fz (FV.int .i64 0)], []) := by kernel_rfl
/-! (*keyhole/level.Lattice).Leq -/
def A_level_Lattice_Leq : AFunc := ⟨3, [(.tmp 6, .fz)], .seq (.region [⟨(some 6), .mov (.c (.fz (.bool false))), none, some .bool⟩])
 (.seq (.region [⟨(some 7), .mov (.t 0), none, none⟩,
   ⟨(some 8), .mov (.t 1), none, some (.int .i64)⟩,
   ⟨(some 9), .call N_level_Lattice_Is [((.t 7), .fz), ((.t 8), .fz)] [.fz], none, some .bool⟩,
   ⟨(some 10), .mov (.t 9), none, some .bool⟩,
   ⟨(some 11), .mov (.t 0), (some (10, true)), none⟩,
   ⟨(some 12), .mov (.t 2), (some (10, true)), some (.int .i64)⟩,
   ⟨(some 13), .call N_level_Lattice_Is [((.t 11), .fz), ((.t 12), .fz)] [.fz], (some (10, true)), some .bool⟩,
   ⟨(some 14), .pick (.t 10) (.t 13) (.c (.fz (.bool false))), none, some .bool⟩,
   ⟨(some 15), .mov (.t 14), none, some .bool⟩,
   ⟨(some 16), .mov (.t 0), (some (15, true)), none⟩,
   ⟨(some 17), .mov (.t 1), (some (15, true)), some (.int .i64)⟩,
   ⟨(some 18), .mov (.t 2), (some (15, true)), some (.int .i64)⟩,
   ⟨(some 19), .nilck (.t 16), (some (15, true)), none⟩,
   ⟨(some 20), .fadr 1 (.t 19), (some (15, true)), none⟩,
   ⟨(some 21), .iadr (.arr 8 8 true) (.t 20) (.t 17), (some (15, true)), none⟩,
   ⟨(some 22), .iadr (.arr 8 1 false) (.t 21) (.t 18), (some (15, true)), none⟩,
   ⟨(some 23), .load 1 false (.t 22), (some (15, true)), some .bool⟩,
   ⟨(some 24), .pick (.t 15) (.t 23) (.c (.fz (.bool false))), none, some .bool⟩,
   ⟨(some 6), .mov (.t 24), none, some .bool⟩])
  (.ret))⟩
theorem E_level_Lattice_Leq (R : Orc) (k : Nat) (w : Bool) (a0 : FV) (a1 : Int) (a2 : Int) : callL R k w A_level_Lattice_Leq [.fz (FV.pt 195 true a0 0), .fz (FV.int .i64 a1), .fz (FV.int .i64 a2)] = onR (R N_level_Lattice_Is [.fz (FV.pt 195 true a0 0), .fz (FV.int .i64 a1)]) fun r0 => when (List.isEmpty r0.2 && allF [.fz] r0.1) (when (FV.isBool (TV.toF (List.getD r0.1 0 TV.em))) (ifB (FV.toBool (TV.toF (List.getD r0.1 0 TV.em)))
  (onR (R N_level_Lattice_Is [.fz (FV.pt 195 true a0 0), .fz (FV.int .i64 a2)]) fun r1 => when (List.isEmpty r1.2 && allF [.fz] r1.1) (when (FV.isBool (TV.toF (List.getD r1.1 0 TV.em))) (ifB (FV.toBool (TV.toF (List.getD r1.1 0 TV.em)))
   (when (decide (0 ≤ a1) && decide (a1 < 8)) (when (decide (0 ≤ a2) && decide (a2 < 8)) (when (FV.isAg 195 a0) (when (Nat.blt ((1 + ((Int.toNat a1) * 8)) + ((Int.toNat a2) * 1)) 195) (when (FV.isBool (FV.cell a0 ((1 + ((Int.toNat a1) * 8)) + ((Int.toNat a2) * 1)))) (some ([.fz (FV.bool (FV.toBool (FV.cell a0 ((1 + ((Int.toNat a1) * 8)) + ((Int.toNat a2) * 1)))))], [])))))))
   (some ([.fz (FV.bool false)], [])))))
  (some ([.fz (FV.bool false)], [])))) := by kernel_rfl
theorem E_level_Lattice_Leq_v1 (R : Orc) (k : Nat) (w : Bool) (a1 : Int) (a2 : Int) : callL R k w A_level_Lattice_Leq [.fz FV.nilp, .fz (FV.int .i64 a1), .fz (FV.int .i64 a2)] = onR (R N_level_Lattice_Is [.fz FV.nilp, .fz (FV.int .i64 a1)]) fun r2 => when (List.isEmpty r2.2 && allF [.fz] r2.1) (when (FV.isBool (TV.toF (List.getD r2.1 0 TV.em))) (ifB (FV.toBool (TV.toF (List.getD r2.1 0 TV.em)))
  (onR (R N_level_Lattice_Is [.fz FV.nilp, .fz (FV.int .i64 a2)]) fun r3 => when (List.isEmpty r3.2 && allF [.fz] r3.1) (when (FV.isBool (TV.toF (List.getD r3.1 0 TV.em))) (ifB (FV.toBool (TV.toF (List.getD r3.1 0 TV.em)))
   (none)
   (some ([.fz (FV.bool false)], [])))))
  (some ([.fz (FV.bool false)], [])))) := by kernel_rfl
/-! (*keyhole/level.Lattice).Join -/
def A_level_Lattice_Join_j1 : ACode := .seq (.region [⟨(some 19), .mov (.t 0), none, none⟩,
  ⟨(some 20), .mov (.t 1), none, some (.int .i64)⟩,
  ⟨(some 21), .mov (.t 2), none, some (.int .i64)⟩,
  ⟨(some 22), .nilck (.t 19), none, none⟩,
  ⟨(some 23), .fadr 65 (.t 22), none, none⟩,
  ⟨(some 24), .iadr (.arr 8 8 true) (.t 23) (.t 20), none, none⟩,
  ⟨(some 25), .iadr (.arr 8 1 false) (.t 24) (.t 21), none, none⟩,
  ⟨(some 26), .load 1 false (.t 25), none, some (.int .i64)⟩,
  ⟨(some 6), .mov (.t 26), none, some (.int .i64)⟩])
 (.ret)
def A_level_Lattice_Join : AFunc := ⟨3, [(.tmp 6, .fz)], .seq (.region [⟨(some 6), .mov (.c (.fz (.int .i64 0))), none, some (.int .i64)⟩])
 (.seq (.seq (.region [⟨(some 7), .mov (.t 0), none, none⟩,
    ⟨(some 8), .mov (.t 1), none, some (.int .i64)⟩,
    ⟨(some 9), .call N_level_Lattice_Is [((.t 7), .fz), ((.t 8), .fz)] [.fz], none, some .bool⟩,
    ⟨(some 10), .notB (.t 9), none, some .bool⟩,
    ⟨(some 11), .mov (.t 10), none, some .bool⟩,
    ⟨(some 12), .mov (.t 0), (some (11, false)), none⟩,
    ⟨(some 13), .mov (.t 2), (some (11, false)), some (.int .i64)⟩,
    ⟨(some 14), .call N_level_Lattice_Is [((.t 12), .fz), ((.t 13), .fz)] [.fz], (some (11, false)), some .bool⟩,
    ⟨(some 15), .notB (.t 14), (some (11, false)), some .bool⟩,
    ⟨(some 16), .pick (.t 11) (.c (.fz (.bool true))) (.t 15), none, some .bool⟩])
   (.cond (.t 16) (.seq (.region [⟨(some 17), .mov (.t 0), none, none⟩,
      ⟨(some 18), .call N_level_Lattice_Top [((.t 17), .fz)] [.fz], none, some (.int .i64)⟩,
      ⟨(some 6), .mov (.t 18), none, some (.int .i64)⟩])
     (.ret))
    (.skip)))
  (.trim [0, 1, 2] A_level_Lattice_Join_j1))⟩
def J_level_Lattice_Join_1_0 (R : Orc) (k : Nat) (w : Bool) (x0e : FV) (x1 : Int) (x2 : Int) := execL R k w [] A_level_Lattice_Join_j1 Ans ⟨[(0, .fz (FV.pt 195 true x0e 0)), (1, .fz (FV.int .i64 x1)), (2, .fz (FV.int .i64 x2))], [(4095, .dead)]⟩ (kFin R [(.tmp 6, .fz)] [])
theorem E_level_Lattice_Join (R : Orc) (k : Nat) (w : Bool) (a0 : FV) (a1 : Int) (a2 : Int) : callL R k w A_level_Lattice_Join [.fz (FV.pt 195 true a0 0), .fz (FV.int .i64 a1), .fz (FV.int .i64 a2)] = onR (R N_level_Lattice_Is [.fz (FV.pt 195 true a0 0), .fz (FV.int .i64 a1)]) fun r0 => when (List.isEmpty r0.2 && allF [.fz] r0.1) (when (FV.isBool (TV.toF (List.getD r0.1 0 TV.em))) (ifB (!(FV.toBool (TV.toF (List.getD r0.1 0 TV.em))))
  (onR (R N_level_Lattice_Top [.fz (FV.pt 195 true a0 0)]) fun r1 => when (List.isEmpty r1.2 && allF [.fz] r1.1) (when (FV.isInt .i64 (TV.toF (List.getD r1.1 0 TV.em))) (some ([.fz (FV.int .i64 (FV.toInt (TV.toF (List.getD r1.1 0 TV.em))))], []))))
  (onR (R N_level_Lattice_Is [.fz (FV.pt 195 true a0 0), .fz (FV.int .i64 a2)]) fun r2 => when (List.isEmpty r2.2 && allF [.fz] r2.1) (when (FV.isBool (TV.toF (List.getD r2.1 0 TV.em))) (ifB (!(FV.toBool (TV.toF (List.getD r2.1 0 TV.em))))
   (onR (R N_level_Lattice_Top [.fz (FV.pt 195 true a0 0)]) fun r3 => when (List.isEmpty r3.2 && allF [.fz] r3.1) (when (FV.isInt .i64 (TV.toF (List.getD r3.1 0 TV.em))) (some ([.fz (FV.int .i64 (FV.toInt (TV.toF (List.getD r3.1 0 TV.em))))], []))))
   (jump w (J_level_Lattice_Join_1_0 R k w a0 a1 a2))))))) := by kernel_rfl
theorem J_level_Lattice_Join_1_0_eq (R : Orc) (k : Nat) (w : Bool) (x0e : FV) (x1 : Int) (x2 : Int) : J_level_Lattice_Join_1_0 R k w x0e x1 x2 = when (decide (0 ≤ x1) && decide (x1 < 8)) (when (decide (0 ≤ x2) && decide (x2 < 8)) (when (FV.isAg 195 x0e) (when (Nat.blt ((65 + ((Int.toNat x1) * 8)) + ((Int.toNat x2) * 1)) 195) (when (FV.isInt .i64 (FV.cell x0e ((65 + ((Int.toNat x1) * 8)) + ((Int.toNat x2) * 1)))) (some ([.fz (FV.int .i64 (FV.toInt (FV.cell x0e ((65 + ((Int.toNat x1) * 8)) + ((Int.toNat x2) * 1)))))], [])))))) := by kernel_rfl
def J_level_Lattice_Join_1_1 (R : Orc) (k : Nat) (w : Bool) (x1 : Int) (x2 : Int) := execL R k w [] A_level_Lattice_Join_j1 Ans ⟨[(0, .fz FV.nilp), (1, .fz (FV.int .i64 x1)), (2, .fz (FV.int .i64 x2))], [(4095, .dead)]⟩ (kFin R [(.tmp 6, .fz)] [])
theorem E_level_Lattice_Join_v1 (R : Orc) (k : Nat) (w : Bool) (a1 : Int) (a2 : Int) : callL R k w A_level_Lattice_Join [.fz FV.nilp, .fz (FV.int .i64 a1), .fz (FV.int .i64 a2)] = onR (R N_level_Lattice_Is [.fz FV.nilp, .fz (FV.int .i64 a1)]) fun r4 => when (List.isEmpty r4.2 && allF [.fz] r4.1) (when (FV.isBool (TV.toF (List.getD r4.1 0 TV.em))) (ifB (!(FV.toBool (TV.toF (List.getD r4.1 0 TV.em))))
  (onR (R N_level_Lattice_Top [.fz FV.nilp]) fun r5 => when (List.isEmpty r5.2 && allF [.fz] r5.1) (when (FV.isInt .i64 (TV.toF (List.getD r5.1 0 TV.em))) (some ([.fz (FV.int .i64 (FV.toInt (TV.toF (List.getD r5.1 0 TV.em))))], []))))
  (onR (R N_level_Lattice_Is [.fz FV.nilp, .fz (FV.int .i64 a2)]) fun r6 => when (List.isEmpty r6.2 && allF [.fz] r6.1) (when (FV.isBool (TV.toF (List.getD r6.1 0 TV.em))) (ifB (!(FV.toBool (TV.toF (List.getD r6.1 0 TV.em))))
   (onR (R N_level_Lattice_Top [.fz FV.nilp]) fun r7 => when (List.isEmpty r7.2 && allF [.fz] r7.1) (when (FV.isInt .i64 (TV.toF (List.getD r7.1 0 TV.em))) (some ([.fz (FV.int .i64 (FV.toInt (TV.toF (List.getD r7.1 0 TV.em))))], []))))
   (jump w (J_level_Lattice_Join_1_1 R k w a1 a2))))))) := by kernel_rfl
theorem J_level_Lattice_Join_1_1_eq (R : Orc) (k : Nat) (w : Bool) (x1 : Int) (x2 : Int) : J_level_Lattice_Join_1_1 R k w x1 x2 = none := by kernel_rfl
/-! keyhole/keyholeref01.Join -/
def A_ref01_Join_b1 : ACode := .seq (.seq (.region [⟨(some 33), .mov (.t 10), none, some (.int .i64)⟩,
   ⟨(some 34), .mov (.t 0), none, none⟩,
   ⟨(some 35), .len (.sl 1 false) (.t 34), none, some (.int .i64)⟩,
   ⟨(some 36), .binI .lss .i64 (.t 33) (.t 35), none, some .bool⟩])
  (.cond (.t 36) (.skip)
   (.exit 2)))
 (.seq (.block 3 (.seq (.region [⟨(some 39), .mov (.t 0), none, none⟩,
     ⟨(some 40), .mov (.t 1), none, some (.int .i64)⟩,
     ⟨(some 41), .iadr (.sl 1 false) (.t 39) (.t 40), none, none⟩,
     ⟨(some 42), .load 1 false (.t 41), none, none⟩,
     ⟨(some 43), .mov (.t 10), none, some (.int .i64)⟩,
     ⟨(some 44), .iadr (.sl 1 false) (.t 42) (.t 43), none, none⟩,
     ⟨(some 45), .load 1 false (.t 44), none, some .bool⟩,
     ⟨(some 46), .mov (.t 45), none, some .bool⟩,
     ⟨(some 47), .mov (.t 0), (some (46, true)), none⟩,
     ⟨(some 48), .mov (.t 2), (some (46, true)), some (.int .i64)⟩,
     ⟨(some 49), .iadr (.sl 1 false) (.t 47) (.t 48), (some (46, true)), none⟩,
     ⟨(some 50), .load 1 false (.t 49), (some (46, true)), none⟩,
     ⟨(some 51), .mov (.t 10), (some (46, true)), some (.int .i64)⟩,
     ⟨(some 52), .iadr (.sl 1 false) (.t 50) (.t 51), (some (46, true)), none⟩,
     ⟨(some 53), .load 1 false (.t 52), (some (46, true)), some .bool⟩,
     ⟨(some 54), .pick (.t 46) (.t 53) (.c (.fz (.bool false))), none, some .bool⟩,
     ⟨(some 55), .mov (.t 54), none, some .bool⟩,
     ⟨(some 56), .mov (.t 0), (some (55, true)), none⟩,
     ⟨(some 57), .mov (.t 8), (some (55, true)), some (.int .i64)⟩,
     ⟨(some 58), .iadr (.sl 1 false) (.t 56) (.t 57), (some (55, true)), none⟩,
     ⟨(some 59), .load 1 false (.t 58), (some (55, true)), none⟩,
     ⟨(some 60), .mov (.t 10), (some (55, true)), some (.int .i64)⟩,
     ⟨(some 61), .iadr (.sl 1 false) (.t 59) (.t 60), (some (55, true)), none⟩,
     ⟨(some 62), .load 1 false (.t 61), (some (55, true)), some .bool⟩,
     ⟨(some 63), .notB (.t 62), (some (55, true)), some .bool⟩,
     ⟨(some 64), .pick (.t 55) (.t 63) (.c (.fz (.bool false))), none, some .bool⟩])
    (.cond (.t 64) (.region [⟨(some 9), .mov (.c (.fz (.bool false))), none, some .bool⟩])
     (.skip))))
  (.region [⟨(some 37), .mov (.t 10), none, some (.int .i64)⟩,
   ⟨(some 38), .binI .add .i64 (.t 37) (.c (.fz (.int .i64 1))), none, some (.int .i64)⟩,
   ⟨(some 10), .mov (.t 38), none, some (.int .i64)⟩]))
def A_ref01_Join_s1 : ACode := .seq (.region [⟨(some 65), .mov (.t 9), none, some .bool⟩])
 (.cond (.t 65) (.region [⟨(some 66), .mov (.t 7), none, none⟩,
   ⟨(some 67), .mov (.t 8), none, some (.int .i64)⟩,
   ⟨(some 68), .buildSl 1 false 1 (.int .i64 0) [(0, (.t 67))], none, none⟩,
   ⟨(some 69), .append 1 false 8 false (.t 66) (.t 68), none, none⟩,
   ⟨(some 7), .mov (.t 69), none, none⟩])
  (.skip))
def A_ref01_Join_j2 : ACode := .seq (.seq (.region [⟨(some 10), .mov (.c (.fz (.int .i64 0))), none, some (.int .i64)⟩])
  (.block 2 (.loop [0, 1, 2, 7, 8, 9, 10] [0, 1, 2, 7, 8, 9] A_ref01_Join_b1)))
 A_ref01_Join_s1
def A_ref01_Join_s3 : ACode := .region [⟨(some 15), .mov (.t 8), none, some (.int .i64)⟩,
 ⟨(some 16), .binI .add .i64 (.t 15) (.c (.fz (.int .i64 1))), none, some (.int .i64)⟩,
 ⟨(some 8), .mov (.t 16), none, some (.int .i64)⟩]
def A_ref01_Join_b2 : ACode := .seq (.seq (.region [⟨(some 11), .mov (.t 8), none, some (.int .i64)⟩,
   ⟨(some 12), .mov (.t 0), none, none⟩,
   ⟨(some 13), .len (.sl 1 false) (.t 12), none, some (.int .i64)⟩,
   ⟨(some 14), .binI .lss .i64 (.t 11) (.t 13), none, some .bool⟩])
  (.cond (.t 14) (.skip)
   (.exit 0)))
 (.seq (.block 1 (.seq (.region [⟨(some 17), .mov (.t 0), none, none⟩,
     ⟨(some 18), .mov (.t 1), none, some (.int .i64)⟩,
     ⟨(some 19), .iadr (.sl 1 false) (.t 17) (.t 18), none, none⟩,
     ⟨(some 20), .load 1 false (.t 19), none, none⟩,
     ⟨(some 21), .mov (.t 8), none, some (.int .i64)⟩,
     ⟨(some 22), .iadr (.sl 1 false) (.t 20) (.t 21), none, none⟩,
     ⟨(some 23), .load 1 false (.t 22), none, some .bool⟩,
     ⟨(some 24), .mov (.t 23), none, some .bool⟩,
     ⟨(some 25), .mov (.t 0), (some (24, true)), none⟩,
     ⟨(some 26), .mov (.t 2), (some (24, true)), some (.int .i64)⟩,
     ⟨(some 27), .iadr (.sl 1 false) (.t 25) (.t 26), (some (24, true)), none⟩,
     ⟨(some 28), .load 1 false (.t 27), (some (24, true)), none⟩,
     ⟨(some 29), .mov (.t 8), (some (24, true)), some (.int .i64)⟩,
     ⟨(some 30), .iadr (.sl 1 false) (.t 28) (.t 29), (some (24, true)), none⟩,
     ⟨(some 31), .load 1 false (.t 30), (some (24, true)), some .bool⟩,
     ⟨(some 32), .pick (.t 24) (.t 31) (.c (.fz (.bool false))), none, some .bool⟩,
     ⟨(some 9), .mov (.t 32), none, some .bool⟩])
    (.trim [0, 1, 2, 7, 8, 9] A_ref01_Join_j2)))
  A_ref01_Join_s3)
def A_ref01_Join_s4 : ACode := .seq (.region [⟨(some 70), .mov (.t 7), none, none⟩,
  ⟨(some 6), .mov (.t 70), none, none⟩])
 (.ret)
def A_ref01_Join : AFunc := ⟨3, [(.tmp 6, .fz)], .seq (.region [⟨(some 6), .mov (.c (.nils)), none, none⟩])
 (.seq (.region [⟨(some 7), .mov (.c (.nils)), none, none⟩])
  (.seq (.seq (.region [⟨(some 8), .mov (.c (.fz (.int .i64 0))), none, some (.int .i64)⟩])
    (.block 0 (.loop [0, 1, 2, 7, 8] [7] A_ref01_Join_b2)))
   A_ref01_Join_s4))⟩
def K_ref01_Join_2 (R : Orc) (k : Nat) (w : Bool) : AExit → St → Option Ans := (kBlk 0 (kSeq R k w [] A_ref01_Join_s4 (kFin R [(.tmp 6, .fz)] [])))
def L_ref01_Join_2_0 (R : Orc) (k : Nat) (w : Bool) (n : Nat) (x0 : List FV) (x1 : Int) (x2 : Int) (x8 : Int) := loopL R k w [] [0, 1, 2, 7, 8] [7] A_ref01_Join_b2 n ⟨[(0, .fz (FV.sl x0)), (1, .fz (FV.int .i64 x1)), (2, .fz (FV.int .i64 x2)), (7, .nils), (8, .fz (FV.int .i64 x8))], [(4095, .dead)]⟩
def J_ref01_Join_2_0 (R : Orc) (k : Nat) (w : Bool) (n : Nat) (x0 : List FV) (x1 : Int) (x2 : Int) (x8 : Int) (x9 : Bool) := execL R k w [] A_ref01_Join_j2 (AExit × St) ⟨[(0, .fz (FV.sl x0)), (1, .fz (FV.int .i64 x1)), (2, .fz (FV.int .i64 x2)), (7, .nils), (8, .fz (FV.int .i64 x8)), (9, .fz (FV.bool x9))], [(4095, .dead)]⟩ (kBlk 1 (kSeq R k w [] A_ref01_Join_s3 (kLoop R k w [] [0, 1, 2, 7, 8] [7] A_ref01_Join_b2 n)))
def X_ref01_Join_2_0 : St := ⟨[(7, .nils)], [(4095, .dead)]⟩
def K_ref01_Join_1 (R : Orc) (k : Nat) (w : Bool) (n : Nat) : AExit → St → Option (AExit × St) := (kBlk 2 (kSeq R k w [] A_ref01_Join_s1 (kBlk 1 (kSeq R k w [] A_ref01_Join_s3 (kLoop R k w [] [0, 1, 2, 7, 8] [7] A_ref01_Join_b2 n)))))
def L_ref01_Join_1_0 (R : Orc) (k : Nat) (w : Bool) (n : Nat) (x0 : List FV) (x1 : Int) (x2 : Int) (x8 : Int) (x9 : Bool) (x10 : Int) := loopL R k w [] [0, 1, 2, 7, 8, 9, 10] [0, 1, 2, 7, 8, 9] A_ref01_Join_b1 n ⟨[(0, .fz (FV.sl x0)), (1, .fz (FV.int .i64 x1)), (2, .fz (FV.int .i64 x2)), (7, .nils), (8, .fz (FV.int .i64 x8)), (9, .fz (FV.bool x9)), (10, .fz (FV.int .i64 x10))], [(4095, .dead)]⟩
def X_ref01_Join_1_0 (x0 : List FV) (x1 : Int) (x2 : Int) (x8 : Int) (x9 : Bool) : St := ⟨[(0, .fz (FV.sl x0)), (1, .fz (FV.int .i64 x1)), (2, .fz (FV.int .i64 x2)), (7, .nils), (8, .fz (FV.int .i64 x8)), (9, .fz (FV.bool x9))], [(4095, .dead)]⟩
def L_ref01_Join_2_1 (R : Orc) (k : Nat) (w : Bool) (n : Nat) (x0 : List FV) (x1 : Int) (x2 : Int) (x8 : Int) (h4096 : List FV) := loopL R k w [] [0, 1, 2, 7, 8] [7] A_ref01_Join_b2 n ⟨[(0, .fz (FV.sl x0)), (1, .fz (FV.int .i64 x1)), (2, .fz (FV.int .i64 x2)), (7, .rw 4096), (8, .fz (FV.int .i64 x8))], [(4095, .dead), (4096, .row 1 false h4096)]⟩
def J_ref01_Join_2_1 (R : Orc) (k : Nat) (w : Bool) (n : Nat) (x0 : List FV) (x1 : Int) (x2 : Int) (x8 : Int) (x9 : Bool) (h4096 : List FV) := execL R k w [] A_ref01_Join_j2 (AExit × St) ⟨[(0, .fz (FV.sl x0)), (1, .fz (FV.int .i64 x1)), (2, .fz (FV.int .i64 x2)), (7, .rw 4096), (8, .fz (FV.int .i64 x8)), (9, .fz (FV.bool x9))], [(4095, .dead), (4096, .row 1 false h4096)]⟩ (kBlk 1 (kSeq R k w [] A_ref01_Join_s3 (kLoop R k w [] [0, 1, 2, 7, 8] [7] A_ref01_Join_b2 n)))
def X_ref01_Join_2_1 (h4096 : List FV) : St := ⟨[(7, .rw 4096)], [(4095, .dead), (4096, .row 1 false h4096)]⟩
def L_ref01_Join_1_1 (R : Orc) (k : Nat) (w : Bool) (n : Nat) (x0 : List FV) (x1 : Int) (x2 : Int) (x8 : Int) (x9 : Bool) (x10 : Int) (h4096 : List FV) := loopL R k w [] [0, 1, 2, 7, 8, 9, 10] [0, 1, 2, 7, 8, 9] A_ref01_Join_b1 n ⟨[(0, .fz (FV.sl x0)), (1, .fz (FV.int .i64 x1)), (2, .fz (FV.int .i64 x2)), (7, .rw 4096), (8, .fz (FV.int .i64 x8)), (9, .fz (FV.bool x9)), (10, .fz (FV.int .i64 x10))], [(4095, .dead), (4096, .row 1 false h4096)]⟩
def X_ref01_Join_1_1 (x0 : List FV) (x1 : Int) (x2 : Int) (x8 : Int) (x9 : Bool) (h4096 : List FV) : St := ⟨[(0, .fz (FV.sl x0)), (1, .fz (FV.int .i64 x1)), (2, .fz (FV.int .i64 x2)), (7, .rw 4096), (8, .fz (FV.int .i64 x8)), (9, .fz (FV.bool x9))], [(4095, .dead), (4096, .row 1 false h4096)]⟩
theorem E_ref01_Join (R : Orc) (k : Nat) (w : Bool) (a0 : List FV) (a1 : Int) (a2 : Int) : callL R k w A_ref01_Join [.fz (FV.sl a0), .fz (FV.int .i64 a1), .fz (FV.int .i64 a2)] = onL (L_ref01_Join_2_0 R k w k a0 a1 a2 0) (K_ref01_Join_2 R k w) := by kernel_rfl
theorem L_ref01_Join_2_0_eq (R : Orc) (k : Nat) (w : Bool) (n : Nat) (x0 : List FV) (x1 : Int) (x2 : Int) (x8 : Int) : L_ref01_Join_2_0 R k w (n + 1) x0 x1 x2 x8 = ifB (decide (x8 < (List.length x0 : Int)))
  (when ((decide (0 ≤ x1)) && (decide (x1 < (List.length x0 : Int)))) (when (FV.fits 1 false (List.getD x0 (Int.toNat x1) FV.nilp)) (when (FV.isSl (List.getD x0 (Int.toNat x1) FV.nilp)) (when ((decide (0 ≤ x8)) && (decide (x8 < (List.length (FV.toSl (List.getD x0 (Int.toNat x1) FV.nilp)) : Int)))) (when (FV.fits 1 false (List.getD (FV.toSl (List.getD x0 (Int.toNat x1) FV.nilp)) (Int.toNat x8) FV.nilp)) (when (FV.isBool (List.getD (FV.toSl (List.getD x0 (Int.toNat x1) FV.nilp)) (Int.toNat x8) FV.nilp)) (ifB (FV.toBool (List.getD (FV.toSl (List.getD x0 (Int.toNat x1) FV.nilp)) (Int.toNat x8) FV.nilp))
   (when ((decide (0 ≤ x2)) && (decide (x2 < (List.length x0 : Int)))) (when (FV.fits 1 false (List.getD x0 (Int.toNat x2) FV.nilp)) (when (FV.isSl (List.getD x0 (Int.toNat x2) FV.nilp)) (when ((decide (0 ≤ x8)) && (decide (x8 < (List.length (FV.toSl (List.getD x0 (Int.toNat x2) FV.nilp)) : Int)))) (when (FV.fits 1 false (List.getD (FV.toSl (List.getD x0 (Int.toNat x2) FV.nilp)) (Int.toNat x8) FV.nilp)) (when (FV.isBool (List.getD (FV.toSl (List.getD x0 (Int.toNat x2) FV.nilp)) (Int.toNat x8) FV.nilp)) (jump w (J_ref01_Join_2_0 R k w n x0 x1 x2 x8 (FV.toBool (List.getD (FV.toSl (List.getD x0 (Int.toNat x2) FV.nilp)) (Int.toNat x8) FV.nilp))))))))))
   (jump w (J_ref01_Join_2_0 R k w n x0 x1 x2 x8 false)))))))))
  (some ((.exit 0), X_ref01_Join_2_0)) := by kernel_rfl
theorem J_ref01_Join_2_0_eq (R : Orc) (k : Nat) (w : Bool) (n : Nat) (x0 : List FV) (x1 : Int) (x2 : Int) (x8 : Int) (x9 : Bool) : J_ref01_Join_2_0 R k w n x0 x1 x2 x8 x9 = onL (L_ref01_Join_1_0 R k w k x0 x1 x2 x8 x9 0) (K_ref01_Join_1 R k w n) := by kernel_rfl
theorem X_ref01_Join_2_0_eq (R : Orc) (k : Nat) (w : Bool) : K_ref01_Join_2 R k w (.exit 0) (X_ref01_Join_2_0) = some ([.fz (FV.sl [])], []) := by kernel_rfl
theorem L_ref01_Join_1_0_eq (R : Orc) (k : Nat) (w : Bool) (n : Nat) (x0 : List FV) (x1 : Int) (x2 : Int) (x8 : Int) (x9 : Bool) (x10 : Int) : L_ref01_Join_1_0 R k w (n + 1) x0 x1 x2 x8 x9 x10 = ifB (decide (x10 < (List.length x0 : Int)))
  (when ((decide (0 ≤ x1)) && (decide (x1 < (List.length x0 : Int)))) (when (FV.fits 1 false (List.getD x0 (Int.toNat x1) FV.nilp)) (when (FV.isSl (List.getD x0 (Int.toNat x1) FV.nilp)) (when ((decide (0 ≤ x10)) && (decide (x10 < (List.length (FV.toSl (List.getD x0 (Int.toNat x1) FV.nilp)) : Int)))) (when (FV.fits 1 false (List.getD (FV.toSl (List.getD x0 (Int.toNat x1) FV.nilp)) (Int.toNat x10) FV.nilp)) (when (FV.isBool (List.getD (FV.toSl (List.getD x0 (Int.toNat x1) FV.nilp)) (Int.toNat x10) FV.nilp)) (ifB (FV.toBool (List.getD (FV.toSl (List.getD x0 (Int.toNat x1) FV.nilp)) (Int.toNat x10) FV.nilp))
   (when ((decide (0 ≤ x2)) && (decide (x2 < (List.length x0 : Int)))) (when (FV.fits 1 false (List.getD x0 (Int.toNat x2) FV.nilp)) (when (FV.isSl (List.getD x0 (Int.toNat x2) FV.nilp)) (when ((decide (0 ≤ x10)) && (decide (x10 < (List.length (FV.toSl (List.getD x0 (Int.toNat x2) FV.nilp)) : Int)))) (when (FV.fits 1 false (List.getD (FV.toSl (List.getD x0 (Int.toNat x2) FV.nilp)) (Int.toNat x10) FV.nilp)) (when (FV.isBool (List.getD (FV.toSl (List.getD x0 (Int.toNat x2) FV.nilp)) (Int.toNat x10) FV.nilp)) (ifB (FV.toBool (List.getD (FV.toSl (List.getD x0 (Int.toNat x2) FV.nilp)) (Int.toNat x10) FV.nilp))
    (when ((decide (0 ≤ x8)) && (decide (x8 < (List.length x0 : Int)))) (when (FV.fits 1 false (List.getD x0 (Int.toNat x8) FV.nilp)) (when (FV.isSl (List.getD x0 (Int.toNat x8) FV.nilp)) (when ((decide (0 ≤ x10)) && (decide (x10 < (List.length (FV.toSl (List.getD x0 (Int.toNat x8) FV.nilp)) : Int)))) (when (FV.fits 1 false (List.getD (FV.toSl (List.getD x0 (Int.toNat x8) FV.nilp)) (Int.toNat x10) FV.nilp)) (when (FV.isBool (List.getD (FV.toSl (List.getD x0 (Int.toNat x8) FV.nilp)) (Int.toNat x10) FV.nilp)) (ifB (!(FV.toBool (List.getD (FV.toSl (List.getD x0 (Int.toNat x8) FV.nilp)) (Int.toNat x10) FV.nilp)))
     (L_ref01_Join_1_0 R k w n x0 x1 x2 x8 false (IntKind.wrap .i64 (x10 + 1)))
     (L_ref01_Join_1_0 R k w n x0 x1 x2 x8 x9 (IntKind.wrap .i64 (x10 + 1))))))))))
    (L_ref01_Join_1_0 R k w n x0 x1 x2 x8 x9 (IntKind.wrap .i64 (x10 + 1))))))))))
   (L_ref01_Join_1_0 R k w n x0 x1 x2 x8 x9 (IntKind.wrap .i64 (x10 + 1))))))))))
  (some ((.exit 2), X_ref01_Join_1_0 x0 x1 x2 x8 x9)) := by kernel_rfl
theorem X_ref01_Join_1_0_eq (R : Orc) (k : Nat) (w : Bool) (n : Nat) (x0 : List FV) (x1 : Int) (x2 : Int) (x8 : Int) (x9 : Bool) : K_ref01_Join_1 R k w n (.exit 2) (X_ref01_Join_1_0 x0 x1 x2 x8 x9) = ifB x9
  (when (decide (((0 : Nat) + List.length [(FV.int .i64 x8)]) * 8 ≤ roomy) && decide ((0 : Nat) + List.length [(FV.int .i64 x8)] ≤ roomy)) (L_ref01_Join_2_1 R k w n x0 x1 x2 (IntKind.wrap .i64 (x8 + 1)) [(FV.int .i64 x8)]))
  (L_ref01_Join_2_0 R k w n x0 x1 x2 (IntKind.wrap .i64 (x8 + 1))) := by kernel_rfl
theorem L_ref01_Join_2_1_eq (R : Orc) (k : Nat) (w : Bool) (n : Nat) (x0 : List FV) (x1 : Int) (x2 : Int) (x8 : Int) (h4096 : List FV) : L_ref01_Join_2_1 R k w (n + 1) x0 x1 x2 x8 h4096 = ifB (decide (x8 < (List.length x0 : Int)))
  (when ((decide (0 ≤ x1)) && (decide (x1 < (List.length x0 : Int)))) (when (FV.fits 1 false (List.getD x0 (Int.toNat x1) FV.nilp)) (when (FV.isSl (List.getD x0 (Int.toNat x1) FV.nilp)) (when ((decide (0 ≤ x8)) && (decide (x8 < (List.length (FV.toSl (List.getD x0 (Int.toNat x1) FV.nilp)) : Int)))) (when (FV.fits 1 false (List.getD (FV.toSl (List.getD x0 (Int.toNat x1) FV.nilp)) (Int.toNat x8) FV.nilp)) (when (FV.isBool (List.getD (FV.toSl (List.getD x0 (Int.toNat x1) FV.nilp)) (Int.toNat x8) FV.nilp)) (ifB (FV.toBool (List.getD (FV.toSl (List.getD x0 (Int.toNat x1) FV.nilp)) (Int.toNat x8) FV.nilp))
   (when ((decide (0 ≤ x2)) && (decide (x2 < (List.length x0 : Int)))) (when (FV.fits 1 false (List.getD x0 (Int.toNat x2) FV.nilp)) (when (FV.isSl (List.getD x0 (Int.toNat x2) FV.nilp)) (when ((decide (0 ≤ x8)) && (decide (x8 < (List.length (FV.toSl (List.getD x0 (Int.toNat x2) FV.nilp)) : Int)))) (when (FV.fits 1 false (List.getD (FV.toSl (List.getD x0 (Int.toNat x2) FV.nilp)) (Int.toNat x8) FV.nilp)) (when (FV.isBool (List.getD (FV.toSl (List.getD x0 (Int.toNat x2) FV.nilp)) (Int.toNat x8) FV.nilp)) (jump w (J_ref01_Join_2_1 R k w n x0 x1 x2 x8 (FV.toBool (List.getD (FV.toSl (List.getD x0 (Int.toNat x2) FV.nilp)) (Int.toNat x8) FV.nilp)) h4096))))))))
   (jump w (J_ref01_Join_2_1 R k w n x0 x1 x2 x8 false h4096)))))))))
  (some ((.exit 0), X_ref01_Join_2_1 h4096)) := by kernel_rfl
theorem J_ref01_Join_2_1_eq (R : Orc) (k : Nat) (w : Bool) (n : Nat) (x0 : List FV) (x1 : Int) (x2 : Int) (x8 : Int) (x9 : Bool) (h4096 : List FV) : J_ref01_Join_2_1 R k w n x0 x1 x2 x8 x9 h4096 = onL (L_ref01_Join_1_1 R k w k x0 x1 x2 x8 x9 0 h4096) (K_ref01_Join_1 R k w n) := by kernel_rfl
theorem X_ref01_Join_2_1_eq (R : Orc) (k : Nat) (w : Bool) (h4096 : List FV) : K_ref01_Join_2 R k w (.exit 0) (X_ref01_Join_2_1 h4096) = some ([.fz (FV.sl h4096)], []) := by kernel_rfl
theorem L_ref01_Join_1_1_eq (R : Orc) (k : Nat) (w : Bool) (n : Nat) (x0 : List FV) (x1 : Int) (x2 : Int) (x8 : Int) (x9 : Bool) (x10 : Int) (h4096 : List FV) : L_ref01_Join_1_1 R k w (n + 1) x0 x1 x2 x8 x9 x10 h4096 = ifB (decide (x10 < (List.length x0 : Int)))
  (when ((decide (0 ≤ x1)) && (decide (x1 < (List.length x0 : Int)))) (when (FV.fits 1 false (List.getD x0 (Int.toNat x1) FV.nilp)) (when (FV.isSl (List.getD x0 (Int.toNat x1) FV.nilp)) (when ((decide (0 ≤ x10)) && (decide (x10 < (List.length (FV.toSl (List.getD x0 (Int.toNat x1) FV.nilp)) : Int)))) (when (FV.fits 1 false (List.getD (FV.toSl (List.getD x0 (Int.toNat x1) FV.nilp)) (Int.toNat x10) FV.nilp)) (when (FV.isBool (List.getD (FV.toSl (List.getD x0 (Int.toNat x1) FV.nilp)) (Int.toNat x10) FV.nilp)) (ifB (FV.toBool (List.getD (FV.toSl (List.getD x0 (Int.toNat x1) FV.nilp)) (Int.toNat x10) FV.nilp))
   (when ((decide (0 ≤ x2)) && (decide (x2 < (List.length x0 : Int)))) (when (FV.fits 1 false (List.getD x0 (Int.toNat x2) FV.nilp)) (when (FV.isSl (List.getD x0 (Int.toNat x2) FV.nilp)) (when ((decide (0 ≤ x10)) && (decide (x10 < (List.length (FV.toSl (List.getD x0 (Int.toNat x2) FV.nilp)) : Int)))) (when (FV.fits 1 false (List.getD (FV.toSl (List.getD x0 (Int.toNat x2) FV.nilp)) (Int.toNat x10) FV.nilp)) (when (FV.isBool (List.getD (FV.toSl (List.getD x0 (Int.toNat x2) FV.nilp)) (Int.toNat x10) FV.nilp)) (ifB (FV.toBool (List.getD (FV.toSl (List.getD x0 (Int.toNat x2) FV.nilp)) (Int.toNat x10) FV.nilp))
    (when ((decide (0 ≤ x8)) && (decide (x8 < (List.length x0 : Int)))) (when (FV.fits 1 false (List.getD x0 (Int.toNat x8) FV.nilp)) (when (FV.isSl (List.getD x0 (Int.toNat x8) FV.nilp)) (when ((decide (0 ≤ x10)) && (decide (x10 < (List.length (FV.toSl (List.getD x0 (Int.toNat x8) FV.nilp)) : Int)))) (when (FV.fits 1 false (List.getD (FV.toSl (List.getD x0 (Int.toNat x8) FV.nilp)) (Int.toNat x10) FV.nilp)) (when (FV.isBool (List.getD (FV.toSl (List.getD x0 (Int.toNat x8) FV.nilp)) (Int.toNat x10) FV.nilp)) (ifB (!(FV.toBool (List.getD (FV.toSl (List.getD x0 (Int.toNat x8) FV.nilp)) (Int.toNat x10) FV.nilp)))
     (L_ref01_Join_1_1 R k w n x0 x1 x2 x8 false (IntKind.wrap .i64 (x10 + 1)) h4096)
     (L_ref01_Join_1_1 R k w n x0 x1 x2 x8 x9 (IntKind.wrap .i64 (x10 + 1)) h4096))))))))
    (L_ref01_Join_1_1 R k w n x0 x1 x2 x8 x9 (IntKind.wrap .i64 (x10 + 1)) h4096))))))))
   (L_ref01_Join_1_1 R k w n x0 x1 x2 x8 x9 (IntKind.wrap .i64 (x10 + 1)) h4096))))))))
  (some ((.exit 2), X_ref01_Join_1_1 x0 x1 x2 x8 x9 h4096)) := by kernel_rfl
theorem X_ref01_Join_1_1_eq (R : Orc) (k : Nat) (w : Bool) (n : Nat) (x0 : List FV) (x1 : Int) (x2 : Int) (x8 : Int) (x9 : Bool) (h4096 : List FV) : K_ref01_Join_1 R k w n (.exit 2) (X_ref01_Join_1_1 x0 x1 x2 x8 x9 h4096) = ifB x9
  (when (decide ((List.length h4096 + List.length [(FV.int .i64 x8)]) * 8 ≤ roomy) && decide (List.length h4096 + List.length [(FV.int .i64 x8)] ≤ roomy)) (L_ref01_Join_2_1 R k w n x0 x1 x2 (IntKind.wrap .i64 (x8 + 1)) (h4096 ++ [(FV.int .i64 x8)])))
  (L_ref01_Join_2_1 R k w n x0 x1 x2 (IntKind.wrap .i64 (x8 + 1)) h4096) := by kernel_rfl
/-! (*keyhole/level.Lattice).Meet -/
def A_level_Lattice_Meet_j1 : ACode := .seq (.region [⟨(some 19), .mov (.t 0), none, none⟩,
  ⟨(some 20), .mov (.t 1), none, some (.int .i64)⟩,
  ⟨(some 21), .mov (.t 2), none, some (.int .i64)⟩,
  ⟨(some 22), .nilck (.t 19), none, none⟩,
  ⟨(some 23), .fadr 129 (.t 22), none, none⟩,
  ⟨(some 24), .iadr (.arr 8 8 true) (.t 23) (.t 20), none, none⟩,
  ⟨(some 25), .iadr (.arr 8 1 false) (.t 24) (.t 21), none, none⟩,
  ⟨(some 26), .load 1 false (.t 25), none, some (.int .i64)⟩,
  ⟨(some 6), .mov (.t 26), none, some (.int .i64)⟩])
 (.ret)
def A_level_Lattice_Meet : AFunc := ⟨3, [(.tmp 6, .fz)], .seq (.region [⟨(some 6), .mov (.c (.fz (.int .i64 0))), none, some (.int .i64)⟩])
 (.seq (.seq (.region [⟨(some 7), .mov (.t 0), none, none⟩,
    ⟨(some 8), .mov (.t 1), none, some (.int .i64)⟩,
    ⟨(some 9), .call N_level_Lattice_Is [((.t 7), .fz), ((.t 8), .fz)] [.fz], none, some .bool⟩,
    ⟨(some 10), .notB (.t 9), none, some .bool⟩,
    ⟨(some 11), .mov (.t 10), none, some .bool⟩,
    ⟨(some 12), .mov (.t 0), (some (11, false)), none⟩,
    ⟨(some 13), .mov (.t 2), (some (11, false)), some (.int .i64)⟩,
    ⟨(some 14), .call N_level_Lattice_Is [((.t 12), .fz), ((.t 13), .fz)] [.fz], (some (11, false)), some .bool⟩,
    ⟨(some 15), .notB (.t 14), (some (11, false)), some .bool⟩,
    ⟨(some 16), .pick (.t 11) (.c (.fz (.bool true))) (.t 15), none, some .bool⟩])
   (.cond (.t 16) (.seq (.region [⟨(some 17), .mov (.t 0), none, none⟩,
      ⟨(some 18), .call N_level_Lattice_Bottom [((.t 17), .fz)] [.fz], none, some (.int .i64)⟩,
      ⟨(some 6), .mov (.t 18), none, some (.int .i64)⟩])
     (.ret))
    (.skip)))
  (.trim [0, 1, 2] A_level_Lattice_Meet_j1))⟩
def J_level_Lattice_Meet_1_0 (R : Orc) (k : Nat) (w : Bool) (x0e : FV) (x1 : Int) (x2 : Int) := execL R k w [] A_level_Lattice_Meet_j1 Ans ⟨[(0, .fz (FV.pt 195 true x0e 0)), (1, .fz (FV.int .i64 x1)), (2, .fz (FV.int .i64 x2))], [(4095, .dead)]⟩ (kFin R [(.tmp 6, .fz)] [])
theorem E_level_Lattice_Meet (R : Orc) (k : Nat) (w : Bool) (a0 : FV) (a1 : Int) (a2 : Int) : callL R k w A_level_Lattice_Meet [.fz (FV.pt 195 true a0 0), .fz (FV.int .i64 a1), .fz (FV.int .i64 a2)] = onR (R N_level_Lattice_Is [.fz (FV.pt 195 true a0 0), .fz (FV.int .i64 a1)]) fun r0 => when (List.isEmpty r0.2 && allF [.fz] r0.1) (when (FV.isBool (TV.toF (List.getD r0.1 0 TV.em))) (ifB (!(FV.toBool (TV.toF (List.getD r0.1 0 TV.em))))
  (onR (R N_level_Lattice_Bottom [.fz (FV.pt 195 true a0 0)]) fun r1 => when (List.isEmpty r1.2 && allF [.fz] r1.1) (when (FV.isInt .i64 (TV.toF (List.getD r1.1 0 TV.em))) (some ([.fz (FV.int .i64 (FV.toInt (TV.toF (List.getD r1.1 0 TV.em))))], []))))
  (onR (R N_level_Lattice_Is [.fz (FV.pt 195 true a0 0), .fz (FV.int .i64 a2)]) fun r2 => when (List.isEmpty r2.2 && allF [.fz] r2.1) (when (FV.isBool (TV.toF (List.getD r2.1 0 TV.em))) (ifB (!(FV.toBool (TV.toF (List.getD r2.1 0 TV.em))))
   (onR (R N_level_Lattice_Bottom [.fz (FV.pt 195 true a0 0)]) fun r3 => when (List.isEmpty r3.2 && allF [.fz] r3.1) (when (FV.isInt .i64 (TV.toF (List.getD r3.1 0 TV.em))) (some ([.fz (FV.int .i64 (FV.toInt (TV.toF (List.getD r3.1 0 TV.em))))], []))))
   (jump w (J_level_Lattice_Meet_1_0 R k w a0 a1 a2))))))) := by kernel_rfl
theorem J_level_Lattice_Meet_1_0_eq (R : Orc) (k : Nat) (w : Bool) (x0e : FV) (x1 : Int) (x2 : Int) : J_level_Lattice_Meet_1_0 R k w x0e x1 x2 = when (decide (0 ≤ x1) && decide (x1 < 8)) (when (decide (0 ≤ x2) && decide (x2 < 8)) (when (FV.isAg 195 x0e) (when (Nat.blt ((129 + ((Int.toNat x1) * 8)) + ((Int.toNat x2) * 1)) 195) (when (FV.isInt .i64 (FV.cell x0e ((129 + ((Int.toNat x1) * 8)) + ((Int.toNat x2) * 1)))) (some ([.fz (FV.int .i64 (FV.toInt (FV.cell x0e ((129 + ((Int.toNat x1) * 8)) + ((Int.toNat x2) * 1)))))], [])))))) := by kernel_rfl
def J_level_Lattice_Meet_1_1 (R : Orc) (k : Nat) (w : Bool) (x1 : Int) (x2 : Int) := execL R k w [] A_level_Lattice_Meet_j1 Ans ⟨[(0, .fz FV.nilp), (1, .fz (FV.int .i64 x1)), (2, .fz (FV.int .i64 x2))], [(4095, .dead)]⟩ (kFin R [(.tmp 6, .fz)] [])
theorem E_level_Lattice_Meet_v1 (R : Orc) (k : Nat) (w : Bool) (a1 : Int) (a2 : Int) : callL R k w A_level_Lattice_Meet [.fz FV.nilp, .fz (FV.int .i64 a1), .fz (FV.int .i64 a2)] = onR (R N_level_Lattice_Is [.fz FV.nilp, .fz (FV.int .i64 a1)]) fun r4 => when (List.isEmpty r4.2 && allF [.fz] r4.1) (when (FV.isBool (TV.toF (List.getD r4.1 0 TV.em))) (ifB (!(FV.toBool (TV.toF (List.getD r4.1 0 TV.em))))
  (onR (R N_level_Lattice_Bottom [.fz FV.nilp]) fun r5 => when (List.isEmpty r5.2 && allF [.fz] r5.1) (when (FV.isInt .i64 (TV.toF (List.getD r5.1 0 TV.em))) (some ([.fz (FV.int .i64 (FV.toInt (TV.toF (List.getD r5.1 0 TV.em))))], []))))
  (onR (R N_level_Lattice_Is [.fz FV.nilp, .fz (FV.int .i64 a2)]) fun r6 => when (List.isEmpty r6.2 && allF [.fz] r6.1) (when (FV.isBool (TV.toF (List.getD r6.1 0 TV.em))) (ifB (!(FV.toBool (TV.toF (List.getD r6.1 0 TV.em))))
   (onR (R N_level_Lattice_Bottom [.fz FV.nilp]) fun r7 => when (List.isEmpty r7.2 && allF [.fz] r7.1) (when (FV.isInt .i64 (TV.toF (List.getD r7.1 0 TV.em))) (some ([.fz (FV.int .i64 (FV.toInt (TV.toF (List.getD r7.1 0 TV.em))))], []))))
   (jump w (J_level_Lattice_Meet_1_1 R k w a1 a2))))))) := by kernel_rfl
theorem J_level_Lattice_Meet_1_1_eq (R : Orc) (k : Nat) (w : Bool) (x1 : Int) (x2 : Int) : J_level_Lattice_Meet_1_1 R k w x1 x2 = none := by kernel_rfl
end Go.Ab
