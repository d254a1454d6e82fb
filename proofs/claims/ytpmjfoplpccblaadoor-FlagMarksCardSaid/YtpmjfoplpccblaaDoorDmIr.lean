/- The seat's functions, all parts. -/
import Derived.Test.YtpmjfoplpccblaaDoorDmTy
import Derived.Test.YtpmjfoplpccblaaDoorDmIr0
import Derived.Test.YtpmjfoplpccblaaDoorDmIr1
namespace Go.Proofs.YtpmjfoplpccblaaDoor.Vs
set_option linter.unusedVariables false
set_option maxRecDepth 100000
def fnL : List (Nat × FnI) := [(3, ⟨L3, R3, 1, 50⟩),
  (4, ⟨L4, R4, 1, 42⟩),
  (5, ⟨L5, R5, 0, 28⟩),
  (6, ⟨L6, R6, 1, 11⟩),
  (7, ⟨L7, R7, 1, 6⟩),
  (8, ⟨L8, R8, 1, 27⟩),
  (9, ⟨L9, R9, 1, 12⟩),
  (10, ⟨L10, R10, 2, 9⟩),
  (11, ⟨L11, R11, 1, 47⟩),
  (12, ⟨L12, R12, 1, 63⟩),
  (13, ⟨L13, R13, 1, 92⟩),
  (14, ⟨L14, R14, 1, 36⟩),
  (15, ⟨L15, R15, 1, 18⟩),
  (16, ⟨L16, R16, 2, 28⟩),
  (17, ⟨L17, R17, 2, 48⟩),
  (18, ⟨L18, R18, 1, 14⟩),
  (19, ⟨L19, R19, 2, 81⟩),
  (20, ⟨L20, R20, 2, 13⟩),
  (21, ⟨L21, R21, 1, 15⟩),
  (22, ⟨L22, R22, 1, 29⟩),
  (23, ⟨L23, R23, 2, 8⟩),
  (24, ⟨L24, R24, 1, 28⟩),
  (25, ⟨L25, R25, 2, 9⟩),
  (26, ⟨L26, R26, 1, 6⟩),
  (27, ⟨L27, R27, 1, 34⟩),
  (28, ⟨L28, R28, 1, 16⟩),
  (29, ⟨L29, R29, 1, 16⟩),
  (30, ⟨L30, R30, 1, 20⟩),
  (31, ⟨L31, R31, 1, 6⟩),
  (32, ⟨L32, R32, 1, 6⟩),
  (33, ⟨L33, R33, 2, 23⟩),
  (34, ⟨L34, R34, 2, 43⟩),
  (35, ⟨L35, R35, 4, 66⟩),
  (36, ⟨L36, R36, 2, 19⟩),
  (37, ⟨L37, R37, 1, 40⟩),
  (38, ⟨L38, R38, 2, 143⟩)]
theorem fnL_ok : Alls (fun p : Nat × FnI => FnOK Tryd.prog p.1 p.2.L p.2.rs p.2.k) fnL := ⟨ok3, ⟨ok4, ⟨ok5, ⟨ok6, ⟨ok7, ⟨ok8, ⟨ok9, ⟨ok10, ⟨ok11, ⟨ok12, ⟨ok13, ⟨ok14, ⟨ok15, ⟨ok16, ⟨ok17, ⟨ok18, ⟨ok19, ⟨ok20, ⟨ok21, ⟨ok22, ⟨ok23, ⟨ok24, ⟨ok25, ⟨ok26, ⟨ok27, ⟨ok28, ⟨ok29, ⟨ok30, ⟨ok31, ⟨ok32, ⟨ok33, ⟨ok34, ⟨ok35, ⟨ok36, ⟨ok37, ⟨ok38, trivial⟩⟩⟩⟩⟩⟩⟩⟩⟩⟩⟩⟩⟩⟩⟩⟩⟩⟩⟩⟩⟩⟩⟩⟩⟩⟩⟩⟩⟩⟩⟩⟩⟩⟩⟩⟩
end Go.Proofs.YtpmjfoplpccblaaDoor.Vs
