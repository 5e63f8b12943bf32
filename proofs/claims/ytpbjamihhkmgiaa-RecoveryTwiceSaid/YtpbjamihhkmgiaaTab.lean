/-
  Contracts of functions of the program and of the document, each for every input that its premises name.
-/
import Derived.Test.YtpbjamihhkmgiaaAd
import Derived.Test.YtpbjamihhkmgiaaChecked
import Derived.KernelRfl
set_option linter.unusedSectionVars false
set_option maxRecDepth 100000
open Go Go.AX
namespace Go.Proofs.Ytpbjamihhkmgiaa.Tb
def i3 : TI := ⟨1, 8, [.int .i64 0], .intt .i64, none⟩
theorem o3 : TIok Try.prog 3 i3 := ⟨by kernel_rfl, by kernel_rfl, rfl, by kernel_rfl, (fun _ => rfl), by kernel_rfl, (fun ks h => (by cases h))⟩
def i4 : TI := ⟨1, 1, [.bool false], .boolt, none⟩
theorem o4 : TIok Try.prog 4 i4 := ⟨by kernel_rfl, by kernel_rfl, rfl, by kernel_rfl, (fun _ => rfl), by kernel_rfl, (fun ks h => (by cases h))⟩
def i5 : TI := ⟨1, 1, [.int .u8 0], .intt .u8, none⟩
theorem o5 : TIok Try.prog 5 i5 := ⟨by kernel_rfl, by kernel_rfl, rfl, by kernel_rfl, (fun _ => rfl), by kernel_rfl, (fun ks h => (by cases h))⟩
def i9 : TI := ⟨1, 16, [.string ByteArray.empty], .strt, none⟩
theorem o9 : TIok Try.prog 9 i9 := ⟨by kernel_rfl, by kernel_rfl, rfl, by kernel_rfl, (fun _ => rfl), by kernel_rfl, (fun ks h => (by cases h))⟩
def i22 : TI := ⟨1, 8, [.int .u64 0], .intt .u64, none⟩
theorem o22 : TIok Try.prog 22 i22 := ⟨by kernel_rfl, by kernel_rfl, rfl, by kernel_rfl, (fun _ => rfl), by kernel_rfl, (fun ks h => (by cases h))⟩
def i23 : TI := ⟨1, 24, [.slice none 0 0], .slt 49, none⟩
theorem o23 : TIok Try.prog 23 i23 := ⟨by kernel_rfl, by kernel_rfl, rfl, by kernel_rfl, (fun _ => rfl), by kernel_rfl, (fun ks h => (by cases h))⟩
def i25 : TI := ⟨6, 64, [.int .u64 0, .int .i64 0, .int .i64 0, .slice none 0 0, .int .i64 0, .int .u64 0], .str [(0, 22), (1, 3), (2, 3), (3, 23), (4, 3), (5, 22)], none⟩
theorem o25 : TIok Try.prog 25 i25 := ⟨by kernel_rfl, by kernel_rfl, rfl, by kernel_rfl, (fun h => (by cases h)), by kernel_rfl, (fun ks h => (by cases h))⟩
def i26 : TI := ⟨1, 24, [.slice none 0 0], .slt 42, none⟩
theorem o26 : TIok Try.prog 26 i26 := ⟨by kernel_rfl, by kernel_rfl, rfl, by kernel_rfl, (fun _ => rfl), by kernel_rfl, (fun ks h => (by cases h))⟩
def i29 : TI := ⟨1, 24, [.slice none 0 0], .slt 38, none⟩
theorem o29 : TIok Try.prog 29 i29 := ⟨by kernel_rfl, by kernel_rfl, rfl, by kernel_rfl, (fun _ => rfl), by kernel_rfl, (fun ks h => (by cases h))⟩
def i30 : TI := ⟨1, 24, [.slice none 0 0], .slt 5, none⟩
theorem o30 : TIok Try.prog 30 i30 := ⟨by kernel_rfl, by kernel_rfl, rfl, by kernel_rfl, (fun _ => rfl), by kernel_rfl, (fun ks h => (by cases h))⟩
def i32 : TI := ⟨18, 256, [.int .u64 0, .int .i64 0, .int .i64 0, .slice none 0 0, .int .i64 0, .int .u64 0, .int .u64 0, .int .i64 0, .slice none 0 0, .int .u64 0, .int .u64 0, .slice none 0 0, .slice none 0 0, .slice none 0 0, .slice none 0 0, .slice none 0 0, .int .u64 0, .int .u64 0], .str [(0, 25), (6, 22), (7, 3), (8, 29), (9, 22), (10, 22), (11, 29), (12, 29), (13, 30), (14, 23), (15, 29), (16, 22), (17, 22)], none⟩
theorem o32 : TIok Try.prog 32 i32 := ⟨by kernel_rfl, by kernel_rfl, rfl, by kernel_rfl, (fun h => (by cases h)), by kernel_rfl, (fun ks h => (by cases h))⟩
def i33 : TI := ⟨1, 24, [.slice none 0 0], .slt 54, none⟩
theorem o33 : TIok Try.prog 33 i33 := ⟨by kernel_rfl, by kernel_rfl, rfl, by kernel_rfl, (fun _ => rfl), by kernel_rfl, (fun ks h => (by cases h))⟩
def i34 : TI := ⟨1, 8, [.int .i64 0], .intt .i64, none⟩
theorem o34 : TIok Try.prog 34 i34 := ⟨by kernel_rfl, by kernel_rfl, rfl, by kernel_rfl, (fun _ => rfl), by kernel_rfl, (fun ks h => (by cases h))⟩
def i38 : TI := ⟨2, 16, [.int .i64 0, .int .u64 0], .str [(0, 3), (1, 22)], some [.int .i64, .int .u64]⟩
theorem o38 : TIok Try.prog 38 i38 := ⟨by kernel_rfl, by kernel_rfl, rfl, by kernel_rfl, (fun h => (by cases h)), by kernel_rfl, (fun ks h => (by cases h; exact ⟨EqOK_of_flat (by kernel_rfl) (by kernel_rfl), (by kernel_rfl)⟩))⟩
def i40 : TI := ⟨9, 88, [.int .i64 0, .int .u64 0, .int .i64 0, .int .i64 0, .int .u64 0, .int .u64 0, .int .u64 0, .int .u64 0, .slice none 0 0], .str [(0, 38), (2, 3), (3, 3), (4, 22), (5, 22), (6, 22), (7, 22), (8, 30)], none⟩
theorem o40 : TIok Try.prog 40 i40 := ⟨by kernel_rfl, by kernel_rfl, rfl, by kernel_rfl, (fun h => (by cases h)), by kernel_rfl, (fun ks h => (by cases h))⟩
def i42 : TI := ⟨13, 136, [.int .i64 0, .int .i64 0, .int .u64 0, .int .i64 0, .int .u64 0, .int .i64 0, .int .i64 0, .int .u64 0, .int .u64 0, .int .u64 0, .int .u64 0, .slice none 0 0, .slice none 0 0], .str [(0, 3), (1, 3), (2, 22), (3, 40), (12, 29)], none⟩
theorem o42 : TIok Try.prog 42 i42 := ⟨by kernel_rfl, by kernel_rfl, rfl, by kernel_rfl, (fun h => (by cases h)), by kernel_rfl, (fun ks h => (by cases h))⟩
def i49 : TI := ⟨2, 32, [.int .u64 0, .slice none 0 0], .str [(0, 22), (1, 29)], none⟩
theorem o49 : TIok Try.prog 49 i49 := ⟨by kernel_rfl, by kernel_rfl, rfl, by kernel_rfl, (fun h => (by cases h)), by kernel_rfl, (fun ks h => (by cases h))⟩
def i52 : TI := ⟨1, 24, [.slice none 0 0], .slt 22, none⟩
theorem o52 : TIok Try.prog 52 i52 := ⟨by kernel_rfl, by kernel_rfl, rfl, by kernel_rfl, (fun _ => rfl), by kernel_rfl, (fun ks h => (by cases h))⟩
def i54 : TI := ⟨10, 112, [.int .i64 0, .int .u64 0, .int .i64 0, .int .u64 0, .int .u64 0, .int .u64 0, .int .u64 0, .int .i64 0, .slice none 0 0, .slice none 0 0], .str [(0, 38), (2, 3), (3, 22), (4, 22), (5, 22), (6, 22), (7, 3), (8, 30), (9, 52)], none⟩
theorem o54 : TIok Try.prog 54 i54 := ⟨by kernel_rfl, by kernel_rfl, rfl, by kernel_rfl, (fun h => (by cases h)), by kernel_rfl, (fun ks h => (by cases h))⟩
def i59 : TI := ⟨1, 8, [.pointer none], .ptrt 63, none⟩
theorem o59 : TIok Try.prog 59 i59 := ⟨by kernel_rfl, by kernel_rfl, rfl, by kernel_rfl, (fun _ => rfl), by kernel_rfl, (fun ks h => (by cases h))⟩
def i63 : TI := ⟨19, 280, [.int .u64 0, .int .i64 0, .int .i64 0, .slice none 0 0, .int .i64 0, .int .u64 0, .int .u64 0, .int .i64 0, .slice none 0 0, .int .u64 0, .int .u64 0, .slice none 0 0, .slice none 0 0, .slice none 0 0, .slice none 0 0, .slice none 0 0, .int .u64 0, .int .u64 0, .slice none 0 0], .str [(0, 32), (18, 33)], none⟩
theorem o63 : TIok Try.prog 63 i63 := ⟨by kernel_rfl, by kernel_rfl, rfl, by kernel_rfl, (fun h => (by cases h)), by kernel_rfl, (fun ks h => (by cases h))⟩
def i90 : TI := ⟨1, 8, [.nilFunc], .funt, none⟩
theorem o90 : TIok Try.prog 90 i90 := ⟨by kernel_rfl, by kernel_rfl, rfl, by kernel_rfl, (fun _ => rfl), by kernel_rfl, (fun ks h => (by cases h))⟩
def i94 : TI := ⟨1, 8, [.nilFunc], .funt, none⟩
theorem o94 : TIok Try.prog 94 i94 := ⟨by kernel_rfl, by kernel_rfl, rfl, by kernel_rfl, (fun _ => rfl), by kernel_rfl, (fun ks h => (by cases h))⟩
def i96 : TI := ⟨1, 8, [.nilFunc], .funt, none⟩
theorem o96 : TIok Try.prog 96 i96 := ⟨by kernel_rfl, by kernel_rfl, rfl, by kernel_rfl, (fun _ => rfl), by kernel_rfl, (fun ks h => (by cases h))⟩
def i108 : TI := ⟨1, 8, [.nilFunc], .funt, none⟩
theorem o108 : TIok Try.prog 108 i108 := ⟨by kernel_rfl, by kernel_rfl, rfl, by kernel_rfl, (fun _ => rfl), by kernel_rfl, (fun ks h => (by cases h))⟩
def i110 : TI := ⟨1, 8, [.nilFunc], .funt, none⟩
theorem o110 : TIok Try.prog 110 i110 := ⟨by kernel_rfl, by kernel_rfl, rfl, by kernel_rfl, (fun _ => rfl), by kernel_rfl, (fun ks h => (by cases h))⟩
def i116 : TI := ⟨1, 8, [.int .u64 0], .intt .u64, none⟩
theorem o116 : TIok Try.prog 116 i116 := ⟨by kernel_rfl, by kernel_rfl, rfl, by kernel_rfl, (fun _ => rfl), by kernel_rfl, (fun ks h => (by cases h))⟩
def i119 : TI := ⟨1, 8, [.int .i64 0], .intt .i64, none⟩
theorem o119 : TIok Try.prog 119 i119 := ⟨by kernel_rfl, by kernel_rfl, rfl, by kernel_rfl, (fun _ => rfl), by kernel_rfl, (fun ks h => (by cases h))⟩
def i127 : TI := ⟨1, 4, [.int .u32 0], .intt .u32, none⟩
theorem o127 : TIok Try.prog 127 i127 := ⟨by kernel_rfl, by kernel_rfl, rfl, by kernel_rfl, (fun _ => rfl), by kernel_rfl, (fun ks h => (by cases h))⟩
def i129 : TI := ⟨1, 8, [.int .u64 0], .intt .u64, none⟩
theorem o129 : TIok Try.prog 129 i129 := ⟨by kernel_rfl, by kernel_rfl, rfl, by kernel_rfl, (fun _ => rfl), by kernel_rfl, (fun ks h => (by cases h))⟩
def i133 : TI := ⟨1, 8, [.pointer none], .ptrt 3, none⟩
theorem o133 : TIok Try.prog 133 i133 := ⟨by kernel_rfl, by kernel_rfl, rfl, by kernel_rfl, (fun _ => rfl), by kernel_rfl, (fun ks h => (by cases h))⟩
def tab : Tab := [(3, i3), (4, i4), (5, i5), (9, i9), (22, i22), (23, i23), (25, i25), (26, i26), (29, i29), (30, i30), (32, i32), (33, i33), (34, i34), (38, i38), (40, i40), (42, i42), (49, i49), (52, i52), (54, i54), (59, i59), (63, i63), (90, i90), (94, i94), (96, i96), (108, i108), (110, i110), (116, i116), (119, i119), (127, i127), (129, i129), (133, i133)]
theorem tabOk : TabOk Try.prog tab := TabOk_of_list (by
  intro x hx
  simp only [tab, List.mem_cons, List.mem_nil_iff, or_false] at hx
  rcases hx with rfl | rfl | rfl | rfl | rfl | rfl | rfl | rfl | rfl | rfl | rfl | rfl | rfl | rfl | rfl | rfl | rfl | rfl | rfl | rfl | rfl | rfl | rfl | rfl | rfl | rfl | rfl | rfl | rfl | rfl | rfl
  · exact o3
  · exact o4
  · exact o5
  · exact o9
  · exact o22
  · exact o23
  · exact o25
  · exact o26
  · exact o29
  · exact o30
  · exact o32
  · exact o33
  · exact o34
  · exact o38
  · exact o40
  · exact o42
  · exact o49
  · exact o52
  · exact o54
  · exact o59
  · exact o63
  · exact o90
  · exact o94
  · exact o96
  · exact o108
  · exact o110
  · exact o116
  · exact o119
  · exact o127
  · exact o129
  · exact o133)
end Go.Proofs.Ytpbjamihhkmgiaa.Tb
