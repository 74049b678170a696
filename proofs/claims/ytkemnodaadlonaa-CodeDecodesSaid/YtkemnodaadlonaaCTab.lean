/- The tables of instructions: their rows. No statement of the seat is proved in this text. -/
import Derived.Test.YtkemnodaadlonaaWd
set_option linter.unusedVariables false
set_option linter.unusedSimpArgs false
set_option maxRecDepth 100000
set_option maxHeartbeats 4000000
namespace Go.Proofs.Ytkemnodaadlonaa
open GAb Go

abbrev Rw := Int × ByteArray × ByteArray
abbrev eR (x : Rw) : List Value := [.int .u32 x.1, .string x.2.1, .string x.2.2]
theorem eR_len (x : Rw) : (eR x).length = 3 := rfl
def rowsL : List Rw := [
  (0, ⟨#[110, 111, 112]⟩, ⟨#[]⟩),
  (16, ⟨#[97, 100, 100]⟩, ⟨#[76, 76, 83]⟩),
  (17, ⟨#[115, 117, 98]⟩, ⟨#[76, 76, 83]⟩),
  (18, ⟨#[109, 117, 108]⟩, ⟨#[76, 76, 83]⟩),
  (19, ⟨#[100, 105, 118]⟩, ⟨#[76, 76, 83]⟩),
  (20, ⟨#[109, 111, 100]⟩, ⟨#[76, 76, 83]⟩),
  (21, ⟨#[110, 101, 103]⟩, ⟨#[76, 83]⟩),
  (24, ⟨#[98, 105, 116, 97, 110, 100]⟩, ⟨#[76, 76, 83]⟩),
  (25, ⟨#[98, 105, 116, 111, 114]⟩, ⟨#[76, 76, 83]⟩),
  (26, ⟨#[98, 105, 116, 120, 111, 114]⟩, ⟨#[76, 76, 83]⟩),
  (27, ⟨#[98, 105, 116, 110, 111, 116]⟩, ⟨#[76, 83]⟩),
  (28, ⟨#[115, 104, 105, 102, 116, 108]⟩, ⟨#[76, 76, 83]⟩),
  (29, ⟨#[115, 115, 104, 105, 102, 116, 114]⟩, ⟨#[76, 76, 83]⟩),
  (30, ⟨#[117, 115, 104, 105, 102, 116, 114]⟩, ⟨#[76, 76, 83]⟩),
  (32, ⟨#[106, 117, 109, 112]⟩, ⟨#[76]⟩),
  (34, ⟨#[106, 122]⟩, ⟨#[76, 76]⟩),
  (35, ⟨#[106, 110, 122]⟩, ⟨#[76, 76]⟩),
  (36, ⟨#[106, 101, 113]⟩, ⟨#[76, 76, 76]⟩),
  (37, ⟨#[106, 110, 101]⟩, ⟨#[76, 76, 76]⟩),
  (38, ⟨#[106, 108, 116]⟩, ⟨#[76, 76, 76]⟩),
  (39, ⟨#[106, 103, 101]⟩, ⟨#[76, 76, 76]⟩),
  (40, ⟨#[106, 103, 116]⟩, ⟨#[76, 76, 76]⟩),
  (41, ⟨#[106, 108, 101]⟩, ⟨#[76, 76, 76]⟩),
  (42, ⟨#[106, 108, 116, 117]⟩, ⟨#[76, 76, 76]⟩),
  (43, ⟨#[106, 103, 101, 117]⟩, ⟨#[76, 76, 76]⟩),
  (44, ⟨#[106, 103, 116, 117]⟩, ⟨#[76, 76, 76]⟩),
  (45, ⟨#[106, 108, 101, 117]⟩, ⟨#[76, 76, 76]⟩),
  (48, ⟨#[99, 97, 108, 108]⟩, ⟨#[76, 76, 83]⟩),
  (49, ⟨#[114, 101, 116, 117, 114, 110]⟩, ⟨#[76]⟩),
  (50, ⟨#[99, 97, 116, 99, 104]⟩, ⟨#[83, 76]⟩),
  (51, ⟨#[116, 104, 114, 111, 119]⟩, ⟨#[76, 76]⟩),
  (52, ⟨#[116, 97, 105, 108, 99, 97, 108, 108]⟩, ⟨#[76, 76]⟩),
  (64, ⟨#[99, 111, 112, 121]⟩, ⟨#[76, 83]⟩),
  (65, ⟨#[99, 111, 112, 121, 115]⟩, ⟨#[76, 83]⟩),
  (66, ⟨#[99, 111, 112, 121, 98]⟩, ⟨#[76, 83]⟩),
  (68, ⟨#[115, 101, 120, 115]⟩, ⟨#[76, 83]⟩),
  (69, ⟨#[115, 101, 120, 98]⟩, ⟨#[76, 83]⟩),
  (72, ⟨#[97, 108, 111, 97, 100]⟩, ⟨#[76, 76, 83]⟩),
  (73, ⟨#[97, 108, 111, 97, 100, 115]⟩, ⟨#[76, 76, 83]⟩),
  (74, ⟨#[97, 108, 111, 97, 100, 98]⟩, ⟨#[76, 76, 83]⟩),
  (75, ⟨#[97, 108, 111, 97, 100, 98, 105, 116]⟩, ⟨#[76, 76, 83]⟩),
  (76, ⟨#[97, 115, 116, 111, 114, 101]⟩, ⟨#[76, 76, 76]⟩),
  (77, ⟨#[97, 115, 116, 111, 114, 101, 115]⟩, ⟨#[76, 76, 76]⟩),
  (78, ⟨#[97, 115, 116, 111, 114, 101, 98]⟩, ⟨#[76, 76, 76]⟩),
  (79, ⟨#[97, 115, 116, 111, 114, 101, 98, 105, 116]⟩, ⟨#[76, 76, 76]⟩),
  (80, ⟨#[115, 116, 107, 99, 111, 117, 110, 116]⟩, ⟨#[83]⟩),
  (81, ⟨#[115, 116, 107, 112, 101, 101, 107]⟩, ⟨#[76, 83]⟩),
  (82, ⟨#[115, 116, 107, 115, 119, 97, 112]⟩, ⟨#[]⟩),
  (83, ⟨#[115, 116, 107, 114, 111, 108, 108]⟩, ⟨#[76, 76]⟩),
  (84, ⟨#[115, 116, 107, 99, 111, 112, 121]⟩, ⟨#[76]⟩),
  (112, ⟨#[115, 116, 114, 101, 97, 109, 99, 104, 97, 114]⟩, ⟨#[76]⟩),
  (113, ⟨#[115, 116, 114, 101, 97, 109, 110, 117, 109]⟩, ⟨#[76]⟩),
  (114, ⟨#[115, 116, 114, 101, 97, 109, 115, 116, 114]⟩, ⟨#[76]⟩),
  (115, ⟨#[115, 116, 114, 101, 97, 109, 117, 110, 105, 99, 104, 97, 114]⟩, ⟨#[76]⟩),
  (256, ⟨#[103, 101, 115, 116, 97, 108, 116]⟩, ⟨#[76, 76, 83]⟩),
  (257, ⟨#[100, 101, 98, 117, 103, 116, 114, 97, 112]⟩, ⟨#[76]⟩),
  (258, ⟨#[103, 101, 116, 109, 101, 109, 115, 105, 122, 101]⟩, ⟨#[83]⟩),
  (259, ⟨#[115, 101, 116, 109, 101, 109, 115, 105, 122, 101]⟩, ⟨#[76, 83]⟩),
  (260, ⟨#[106, 117, 109, 112, 97, 98, 115]⟩, ⟨#[76]⟩),
  (272, ⟨#[114, 97, 110, 100, 111, 109]⟩, ⟨#[76, 83]⟩),
  (273, ⟨#[115, 101, 116, 114, 97, 110, 100, 111, 109]⟩, ⟨#[76]⟩),
  (288, ⟨#[113, 117, 105, 116]⟩, ⟨#[]⟩)]
def lateL : List Rw := [
  (289, ⟨#[118, 101, 114, 105, 102, 121]⟩, ⟨#[83]⟩),
  (290, ⟨#[114, 101, 115, 116, 97, 114, 116]⟩, ⟨#[]⟩),
  (291, ⟨#[115, 97, 118, 101]⟩, ⟨#[76, 83]⟩),
  (292, ⟨#[114, 101, 115, 116, 111, 114, 101]⟩, ⟨#[76, 83]⟩),
  (293, ⟨#[115, 97, 118, 101, 117, 110, 100, 111]⟩, ⟨#[83]⟩),
  (294, ⟨#[114, 101, 115, 116, 111, 114, 101, 117, 110, 100, 111]⟩, ⟨#[83]⟩),
  (295, ⟨#[112, 114, 111, 116, 101, 99, 116]⟩, ⟨#[76, 76]⟩),
  (296, ⟨#[104, 97, 115, 117, 110, 100, 111]⟩, ⟨#[83]⟩),
  (297, ⟨#[100, 105, 115, 99, 97, 114, 100, 117, 110, 100, 111]⟩, ⟨#[]⟩),
  (304, ⟨#[103, 108, 107]⟩, ⟨#[76, 76, 83]⟩),
  (320, ⟨#[103, 101, 116, 115, 116, 114, 105, 110, 103, 116, 98, 108]⟩, ⟨#[83]⟩),
  (321, ⟨#[115, 101, 116, 115, 116, 114, 105, 110, 103, 116, 98, 108]⟩, ⟨#[76]⟩),
  (328, ⟨#[103, 101, 116, 105, 111, 115, 121, 115]⟩, ⟨#[83, 83]⟩),
  (329, ⟨#[115, 101, 116, 105, 111, 115, 121, 115]⟩, ⟨#[76, 76]⟩),
  (336, ⟨#[108, 105, 110, 101, 97, 114, 115, 101, 97, 114, 99, 104]⟩, ⟨#[76, 76, 76, 76, 76, 76, 76, 83]⟩),
  (337, ⟨#[98, 105, 110, 97, 114, 121, 115, 101, 97, 114, 99, 104]⟩, ⟨#[76, 76, 76, 76, 76, 76, 76, 83]⟩),
  (338, ⟨#[108, 105, 110, 107, 101, 100, 115, 101, 97, 114, 99, 104]⟩, ⟨#[76, 76, 76, 76, 76, 76, 83]⟩),
  (352, ⟨#[99, 97, 108, 108, 102]⟩, ⟨#[76, 83]⟩),
  (353, ⟨#[99, 97, 108, 108, 102, 105]⟩, ⟨#[76, 76, 83]⟩),
  (354, ⟨#[99, 97, 108, 108, 102, 105, 105]⟩, ⟨#[76, 76, 76, 83]⟩),
  (355, ⟨#[99, 97, 108, 108, 102, 105, 105, 105]⟩, ⟨#[76, 76, 76, 76, 83]⟩),
  (368, ⟨#[109, 122, 101, 114, 111]⟩, ⟨#[76, 76]⟩),
  (369, ⟨#[109, 99, 111, 112, 121]⟩, ⟨#[76, 76, 76]⟩),
  (376, ⟨#[109, 97, 108, 108, 111, 99]⟩, ⟨#[76, 83]⟩),
  (377, ⟨#[109, 102, 114, 101, 101]⟩, ⟨#[76]⟩),
  (384, ⟨#[97, 99, 99, 101, 108, 102, 117, 110, 99]⟩, ⟨#[76, 76]⟩),
  (385, ⟨#[97, 99, 99, 101, 108, 112, 97, 114, 97, 109]⟩, ⟨#[76, 76]⟩),
  (400, ⟨#[110, 117, 109, 116, 111, 102]⟩, ⟨#[76, 83]⟩),
  (401, ⟨#[102, 116, 111, 110, 117, 109, 122]⟩, ⟨#[76, 83]⟩),
  (402, ⟨#[102, 116, 111, 110, 117, 109, 110]⟩, ⟨#[76, 83]⟩),
  (408, ⟨#[99, 101, 105, 108]⟩, ⟨#[76, 83]⟩),
  (409, ⟨#[102, 108, 111, 111, 114]⟩, ⟨#[76, 83]⟩),
  (416, ⟨#[102, 97, 100, 100]⟩, ⟨#[76, 76, 83]⟩),
  (417, ⟨#[102, 115, 117, 98]⟩, ⟨#[76, 76, 83]⟩),
  (418, ⟨#[102, 109, 117, 108]⟩, ⟨#[76, 76, 83]⟩),
  (419, ⟨#[102, 100, 105, 118]⟩, ⟨#[76, 76, 83]⟩),
  (420, ⟨#[102, 109, 111, 100]⟩, ⟨#[76, 76, 83, 83]⟩),
  (424, ⟨#[115, 113, 114, 116]⟩, ⟨#[76, 83]⟩),
  (448, ⟨#[106, 102, 101, 113]⟩, ⟨#[76, 76, 76, 76]⟩),
  (449, ⟨#[106, 102, 110, 101]⟩, ⟨#[76, 76, 76, 76]⟩),
  (450, ⟨#[106, 102, 108, 116]⟩, ⟨#[76, 76, 76]⟩),
  (451, ⟨#[106, 102, 108, 101]⟩, ⟨#[76, 76, 76]⟩),
  (452, ⟨#[106, 102, 103, 116]⟩, ⟨#[76, 76, 76]⟩),
  (453, ⟨#[106, 102, 103, 101]⟩, ⟨#[76, 76, 76]⟩),
  (456, ⟨#[106, 105, 115, 110, 97, 110]⟩, ⟨#[76, 76]⟩),
  (457, ⟨#[106, 105, 115, 105, 110, 102]⟩, ⟨#[76, 76]⟩),
  (512, ⟨#[110, 117, 109, 116, 111, 100]⟩, ⟨#[76, 83, 83]⟩),
  (513, ⟨#[100, 116, 111, 110, 117, 109, 122]⟩, ⟨#[76, 76, 83]⟩),
  (514, ⟨#[100, 116, 111, 110, 117, 109, 110]⟩, ⟨#[76, 76, 83]⟩),
  (515, ⟨#[102, 116, 111, 100]⟩, ⟨#[76, 83, 83]⟩),
  (516, ⟨#[100, 116, 111, 102]⟩, ⟨#[76, 76, 83]⟩),
  (520, ⟨#[100, 99, 101, 105, 108]⟩, ⟨#[76, 76, 83, 83]⟩),
  (521, ⟨#[100, 102, 108, 111, 111, 114]⟩, ⟨#[76, 76, 83, 83]⟩),
  (528, ⟨#[100, 97, 100, 100]⟩, ⟨#[76, 76, 76, 76, 83, 83]⟩),
  (529, ⟨#[100, 115, 117, 98]⟩, ⟨#[76, 76, 76, 76, 83, 83]⟩),
  (530, ⟨#[100, 109, 117, 108]⟩, ⟨#[76, 76, 76, 76, 83, 83]⟩),
  (531, ⟨#[100, 100, 105, 118]⟩, ⟨#[76, 76, 76, 76, 83, 83]⟩),
  (532, ⟨#[100, 109, 111, 100, 114]⟩, ⟨#[76, 76, 76, 76, 83, 83]⟩),
  (533, ⟨#[100, 109, 111, 100, 113]⟩, ⟨#[76, 76, 76, 76, 83, 83]⟩),
  (536, ⟨#[100, 115, 113, 114, 116]⟩, ⟨#[76, 76, 83, 83]⟩),
  (560, ⟨#[106, 100, 101, 113]⟩, ⟨#[76, 76, 76, 76, 76, 76, 76]⟩),
  (561, ⟨#[106, 100, 110, 101]⟩, ⟨#[76, 76, 76, 76, 76, 76, 76]⟩),
  (562, ⟨#[106, 100, 108, 116]⟩, ⟨#[76, 76, 76, 76, 76]⟩),
  (563, ⟨#[106, 100, 108, 101]⟩, ⟨#[76, 76, 76, 76, 76]⟩),
  (564, ⟨#[106, 100, 103, 116]⟩, ⟨#[76, 76, 76, 76, 76]⟩),
  (565, ⟨#[106, 100, 103, 101]⟩, ⟨#[76, 76, 76, 76, 76]⟩),
  (568, ⟨#[106, 100, 105, 115, 110, 97, 110]⟩, ⟨#[76, 76, 76]⟩),
  (569, ⟨#[106, 100, 105, 115, 105, 110, 102]⟩, ⟨#[76, 76, 76]⟩)]
theorem rows_call {σ : AState} : SCall Try.prog E0 50 [] σ (Ret E0 σ (fun (y : Option Addr × Nat) => .slice y.1 62 y.2) (fun y => [own y.1 62 y.2 3 (rows eR rowsL)]) fun y => True) := by
  refine k_fun Try.func50 rfl (m := 64) rfl fun B hD Q K => ?_
  have F := Facts.nil E0 σ
  refine k_seq (fun Q K => ?_)
  refine k_lin (fun W K => ?_)
  refine l_op 0 rfl rfl rfl rfl rfl ?_
  refine l_nil (WK.nx (by assumption) ?_)
  refine SeqK.nx (by assumption) ?_
  refine k_seq (fun Q K => ?_)
  refine k_lin (fun W K => ?_)
  refine l_bld rfl rfl rfl rfl ?_
  refine l_bld rfl rfl rfl rfl ?_
  refine l_bld rfl rfl rfl rfl ?_
  refine l_bld rfl rfl rfl rfl ?_
  refine l_bld rfl rfl rfl rfl ?_
  refine l_bld rfl rfl rfl rfl ?_
  refine l_bld rfl rfl rfl rfl ?_
  refine l_bld rfl rfl rfl rfl ?_
  refine l_bld rfl rfl rfl rfl ?_
  refine l_bld rfl rfl rfl rfl ?_
  refine l_bld rfl rfl rfl rfl ?_
  refine l_bld rfl rfl rfl rfl ?_
  refine l_bld rfl rfl rfl rfl ?_
  refine l_bld rfl rfl rfl rfl ?_
  refine l_bld rfl rfl rfl rfl ?_
  refine l_bld rfl rfl rfl rfl ?_
  refine l_bld rfl rfl rfl rfl ?_
  refine l_bld rfl rfl rfl rfl ?_
  refine l_bld rfl rfl rfl rfl ?_
  refine l_bld rfl rfl rfl rfl ?_
  refine l_bld rfl rfl rfl rfl ?_
  refine l_bld rfl rfl rfl rfl ?_
  refine l_bld rfl rfl rfl rfl ?_
  refine l_bld rfl rfl rfl rfl ?_
  refine l_bld rfl rfl rfl rfl ?_
  refine l_bld rfl rfl rfl rfl ?_
  refine l_bld rfl rfl rfl rfl ?_
  refine l_bld rfl rfl rfl rfl ?_
  refine l_bld rfl rfl rfl rfl ?_
  refine l_bld rfl rfl rfl rfl ?_
  refine l_bld rfl rfl rfl rfl ?_
  refine l_bld rfl rfl rfl rfl ?_
  refine l_bld rfl rfl rfl rfl ?_
  refine l_bld rfl rfl rfl rfl ?_
  refine l_bld rfl rfl rfl rfl ?_
  refine l_bld rfl rfl rfl rfl ?_
  refine l_bld rfl rfl rfl rfl ?_
  refine l_bld rfl rfl rfl rfl ?_
  refine l_bld rfl rfl rfl rfl ?_
  refine l_bld rfl rfl rfl rfl ?_
  refine l_bld rfl rfl rfl rfl ?_
  refine l_bld rfl rfl rfl rfl ?_
  refine l_bld rfl rfl rfl rfl ?_
  refine l_bld rfl rfl rfl rfl ?_
  refine l_bld rfl rfl rfl rfl ?_
  refine l_bld rfl rfl rfl rfl ?_
  refine l_bld rfl rfl rfl rfl ?_
  refine l_bld rfl rfl rfl rfl ?_
  refine l_bld rfl rfl rfl rfl ?_
  refine l_bld rfl rfl rfl rfl ?_
  refine l_bld rfl rfl rfl rfl ?_
  refine l_bld rfl rfl rfl rfl ?_
  refine l_bld rfl rfl rfl rfl ?_
  refine l_bld rfl rfl rfl rfl ?_
  refine l_bld rfl rfl rfl rfl ?_
  refine l_bld rfl rfl rfl rfl ?_
  refine l_bld rfl rfl rfl rfl ?_
  refine l_bld rfl rfl rfl rfl ?_
  refine l_bld rfl rfl rfl rfl ?_
  refine l_bld rfl rfl rfl rfl ?_
  refine l_bld rfl rfl rfl rfl ?_
  refine l_bld rfl rfl rfl rfl ?_
  refine l_lit F rfl rfl rfl rfl (fun q63 s F => ?_)
  (try dsimp only [n_1, n_2, n_3, n_4, List.append_nil, pk, n_5, n_6] at F)
  refine l_op 0 rfl rfl rfl rfl rfl ?_
  refine l_nil (WK.nx (by assumption) ?_)
  refine SeqK.nx (by assumption) ?_
  refine k_ret ?_
  refine FunK.rt (by assumption) rfl ?_
  -- leaf 1
  exact ⟨(some ⟨q63, 0, some 0⟩, 62), rfl, F, trivial⟩
theorem late_call {σ : AState} : SCall Try.prog E0 51 [] σ (Ret E0 σ (fun (y : Option Addr × Nat) => .slice y.1 68 y.2) (fun y => [own y.1 68 y.2 3 (rows eR lateL)]) fun y => True) := by
  refine k_fun Try.func51 rfl (m := 70) rfl fun B hD Q K => ?_
  have F := Facts.nil E0 σ
  refine k_seq (fun Q K => ?_)
  refine k_lin (fun W K => ?_)
  refine l_op 0 rfl rfl rfl rfl rfl ?_
  refine l_nil (WK.nx (by assumption) ?_)
  refine SeqK.nx (by assumption) ?_
  refine k_seq (fun Q K => ?_)
  refine k_lin (fun W K => ?_)
  refine l_bld rfl rfl rfl rfl ?_
  refine l_bld rfl rfl rfl rfl ?_
  refine l_bld rfl rfl rfl rfl ?_
  refine l_bld rfl rfl rfl rfl ?_
  refine l_bld rfl rfl rfl rfl ?_
  refine l_bld rfl rfl rfl rfl ?_
  refine l_bld rfl rfl rfl rfl ?_
  refine l_bld rfl rfl rfl rfl ?_
  refine l_bld rfl rfl rfl rfl ?_
  refine l_bld rfl rfl rfl rfl ?_
  refine l_bld rfl rfl rfl rfl ?_
  refine l_bld rfl rfl rfl rfl ?_
  refine l_bld rfl rfl rfl rfl ?_
  refine l_bld rfl rfl rfl rfl ?_
  refine l_bld rfl rfl rfl rfl ?_
  refine l_bld rfl rfl rfl rfl ?_
  refine l_bld rfl rfl rfl rfl ?_
  refine l_bld rfl rfl rfl rfl ?_
  refine l_bld rfl rfl rfl rfl ?_
  refine l_bld rfl rfl rfl rfl ?_
  refine l_bld rfl rfl rfl rfl ?_
  refine l_bld rfl rfl rfl rfl ?_
  refine l_bld rfl rfl rfl rfl ?_
  refine l_bld rfl rfl rfl rfl ?_
  refine l_bld rfl rfl rfl rfl ?_
  refine l_bld rfl rfl rfl rfl ?_
  refine l_bld rfl rfl rfl rfl ?_
  refine l_bld rfl rfl rfl rfl ?_
  refine l_bld rfl rfl rfl rfl ?_
  refine l_bld rfl rfl rfl rfl ?_
  refine l_bld rfl rfl rfl rfl ?_
  refine l_bld rfl rfl rfl rfl ?_
  refine l_bld rfl rfl rfl rfl ?_
  refine l_bld rfl rfl rfl rfl ?_
  refine l_bld rfl rfl rfl rfl ?_
  refine l_bld rfl rfl rfl rfl ?_
  refine l_bld rfl rfl rfl rfl ?_
  refine l_bld rfl rfl rfl rfl ?_
  refine l_bld rfl rfl rfl rfl ?_
  refine l_bld rfl rfl rfl rfl ?_
  refine l_bld rfl rfl rfl rfl ?_
  refine l_bld rfl rfl rfl rfl ?_
  refine l_bld rfl rfl rfl rfl ?_
  refine l_bld rfl rfl rfl rfl ?_
  refine l_bld rfl rfl rfl rfl ?_
  refine l_bld rfl rfl rfl rfl ?_
  refine l_bld rfl rfl rfl rfl ?_
  refine l_bld rfl rfl rfl rfl ?_
  refine l_bld rfl rfl rfl rfl ?_
  refine l_bld rfl rfl rfl rfl ?_
  refine l_bld rfl rfl rfl rfl ?_
  refine l_bld rfl rfl rfl rfl ?_
  refine l_bld rfl rfl rfl rfl ?_
  refine l_bld rfl rfl rfl rfl ?_
  refine l_bld rfl rfl rfl rfl ?_
  refine l_bld rfl rfl rfl rfl ?_
  refine l_bld rfl rfl rfl rfl ?_
  refine l_bld rfl rfl rfl rfl ?_
  refine l_bld rfl rfl rfl rfl ?_
  refine l_bld rfl rfl rfl rfl ?_
  refine l_bld rfl rfl rfl rfl ?_
  refine l_bld rfl rfl rfl rfl ?_
  refine l_bld rfl rfl rfl rfl ?_
  refine l_bld rfl rfl rfl rfl ?_
  refine l_bld rfl rfl rfl rfl ?_
  refine l_bld rfl rfl rfl rfl ?_
  refine l_bld rfl rfl rfl rfl ?_
  refine l_bld rfl rfl rfl rfl ?_
  refine l_lit F rfl rfl rfl rfl (fun q69 s F => ?_)
  (try dsimp only [n_1, n_2, n_3, n_4, List.append_nil, pk, n_5, n_6] at F)
  refine l_op 0 rfl rfl rfl rfl rfl ?_
  refine l_nil (WK.nx (by assumption) ?_)
  refine SeqK.nx (by assumption) ?_
  refine k_ret ?_
  refine FunK.rt (by assumption) rfl ?_
  -- leaf 1
  exact ⟨(some ⟨q69, 0, some 0⟩, 68), rfl, F, trivial⟩
end Go.Proofs.Ytkemnodaadlonaa
