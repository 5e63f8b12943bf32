/-
  the table of the program types, as the walks use it.
-/
import Derived.Test.YtibbgchpgfpccaaAe
import Derived.Test.YtibbgchpgfpccaaChecked
import Derived.KernelRfl
/- The table of types of this seat, and its functions: written by gentab.py. -/
set_option maxRecDepth 100000
open Go Go.AX
namespace Go.Proofs.Ytibbgchpgfpccaa.Tb
def i3 : TI := ⟨1, 8, [.int .i64 0], .intt .i64, none⟩
theorem o3 : TIok Try.prog 3 i3 := ⟨by kernel_rfl, by kernel_rfl, rfl, by kernel_rfl, (fun _ => rfl), by kernel_rfl, (fun ks h => (by cases h))⟩
def i4 : TI := ⟨1, 1, [.bool false], .boolt, none⟩
theorem o4 : TIok Try.prog 4 i4 := ⟨by kernel_rfl, by kernel_rfl, rfl, by kernel_rfl, (fun _ => rfl), by kernel_rfl, (fun ks h => (by cases h))⟩
def i5 : TI := ⟨1, 1, [.int .u8 0], .intt .u8, none⟩
theorem o5 : TIok Try.prog 5 i5 := ⟨by kernel_rfl, by kernel_rfl, rfl, by kernel_rfl, (fun _ => rfl), by kernel_rfl, (fun ks h => (by cases h))⟩
def i9 : TI := ⟨1, 16, [.string ByteArray.empty], .strt, none⟩
theorem o9 : TIok Try.prog 9 i9 := ⟨by kernel_rfl, by kernel_rfl, rfl, by kernel_rfl, (fun _ => rfl), by kernel_rfl, (fun ks h => (by cases h))⟩
def i22 : TI := ⟨1, 8, [.int .u64 0], .intt .u64, none⟩
theorem o22 : TIok Try.prog 22 i22 := ⟨by kernel_rfl, by kernel_rfl, rfl, by kernel_rfl, (fun _ => rfl), by kernel_rfl, (fun ks h => (by cases h))⟩
def i23 : TI := ⟨1, 24, [.slice none 0 0], .slt 106, none⟩
theorem o23 : TIok Try.prog 23 i23 := ⟨by kernel_rfl, by kernel_rfl, rfl, by kernel_rfl, (fun _ => rfl), by kernel_rfl, (fun ks h => (by cases h))⟩
def i25 : TI := ⟨6, 64, [.int .u64 0, .int .i64 0, .int .i64 0, .slice none 0 0, .int .i64 0, .int .u64 0], .str [(0, 22), (1, 3), (2, 3), (3, 23), (4, 3), (5, 22)], none⟩
theorem o25 : TIok Try.prog 25 i25 := ⟨by kernel_rfl, by kernel_rfl, rfl, by kernel_rfl, (fun h => (by cases h)), by kernel_rfl, (fun ks h => (by cases h))⟩
def i26 : TI := ⟨1, 24, [.slice none 0 0], .slt 42, none⟩
theorem o26 : TIok Try.prog 26 i26 := ⟨by kernel_rfl, by kernel_rfl, rfl, by kernel_rfl, (fun _ => rfl), by kernel_rfl, (fun ks h => (by cases h))⟩
def i27 : TI := ⟨1, 24, [.slice none 0 0], .slt 5, none⟩
theorem o27 : TIok Try.prog 27 i27 := ⟨by kernel_rfl, by kernel_rfl, rfl, by kernel_rfl, (fun _ => rfl), by kernel_rfl, (fun ks h => (by cases h))⟩
def i30 : TI := ⟨1, 24, [.slice none 0 0], .slt 38, none⟩
theorem o30 : TIok Try.prog 30 i30 := ⟨by kernel_rfl, by kernel_rfl, rfl, by kernel_rfl, (fun _ => rfl), by kernel_rfl, (fun ks h => (by cases h))⟩
def i32 : TI := ⟨8, 96, [.int .u64 0, .int .u64 0, .slice none 0 0, .int .i64 0, .int .u64 0, .int .u64 0, .int .i64 0, .slice none 0 0], .str [(0, 22), (1, 22), (2, 30), (3, 3), (4, 22), (5, 22), (6, 3), (7, 27)], none⟩
theorem o32 : TIok Try.prog 32 i32 := ⟨by kernel_rfl, by kernel_rfl, rfl, by kernel_rfl, (fun h => (by cases h)), by kernel_rfl, (fun ks h => (by cases h))⟩
def i33 : TI := ⟨1, 24, [.slice none 0 0], .slt 49, none⟩
theorem o33 : TIok Try.prog 33 i33 := ⟨by kernel_rfl, by kernel_rfl, rfl, by kernel_rfl, (fun _ => rfl), by kernel_rfl, (fun ks h => (by cases h))⟩
def i34 : TI := ⟨1, 8, [.int .i64 0], .intt .i64, none⟩
theorem o34 : TIok Try.prog 34 i34 := ⟨by kernel_rfl, by kernel_rfl, rfl, by kernel_rfl, (fun _ => rfl), by kernel_rfl, (fun ks h => (by cases h))⟩
def i38 : TI := ⟨2, 16, [.int .i64 0, .int .u64 0], .str [(0, 3), (1, 22)], some [.int .i64, .int .u64]⟩
theorem o38 : TIok Try.prog 38 i38 := ⟨by kernel_rfl, by kernel_rfl, rfl, by kernel_rfl, (fun h => (by cases h)), by kernel_rfl, (fun ks h => (by cases h; exact ⟨EqOK_of_flat (by kernel_rfl) (by kernel_rfl), (by kernel_rfl)⟩))⟩
def i40 : TI := ⟨9, 88, [.int .i64 0, .int .u64 0, .int .i64 0, .int .i64 0, .int .u64 0, .int .u64 0, .int .u64 0, .int .u64 0, .slice none 0 0], .str [(0, 38), (2, 3), (3, 3), (4, 22), (5, 22), (6, 22), (7, 22), (8, 27)], none⟩
theorem o40 : TIok Try.prog 40 i40 := ⟨by kernel_rfl, by kernel_rfl, rfl, by kernel_rfl, (fun h => (by cases h)), by kernel_rfl, (fun ks h => (by cases h))⟩
def i42 : TI := ⟨18, 176, [.int .i64 0, .int .i64 0, .int .u64 0, .int .i64 0, .int .u64 0, .int .i64 0, .int .i64 0, .int .u64 0, .int .u64 0, .int .u64 0, .int .u64 0, .slice none 0 0, .int .u64 0, .int .i64 0, .int .i64 0, .slice none 0 0, .int .i64 0, .int .u64 0], .str [(0, 3), (1, 3), (2, 22), (3, 40), (12, 25)], none⟩
theorem o42 : TIok Try.prog 42 i42 := ⟨by kernel_rfl, by kernel_rfl, rfl, by kernel_rfl, (fun h => (by cases h)), by kernel_rfl, (fun ks h => (by cases h))⟩
def i47 : TI := ⟨1, 24, [.slice none 0 0], .slt 22, none⟩
theorem o47 : TIok Try.prog 47 i47 := ⟨by kernel_rfl, by kernel_rfl, rfl, by kernel_rfl, (fun _ => rfl), by kernel_rfl, (fun ks h => (by cases h))⟩
def i49 : TI := ⟨10, 112, [.int .i64 0, .int .u64 0, .int .i64 0, .int .u64 0, .int .u64 0, .int .u64 0, .int .u64 0, .int .i64 0, .slice none 0 0, .slice none 0 0], .str [(0, 38), (2, 3), (3, 22), (4, 22), (5, 22), (6, 22), (7, 3), (8, 27), (9, 47)], none⟩
theorem o49 : TIok Try.prog 49 i49 := ⟨by kernel_rfl, by kernel_rfl, rfl, by kernel_rfl, (fun h => (by cases h)), by kernel_rfl, (fun ks h => (by cases h))⟩
def i50 : TI := ⟨1, 8, [.int .u64 0], .intt .u64, none⟩
theorem o50 : TIok Try.prog 50 i50 := ⟨by kernel_rfl, by kernel_rfl, rfl, by kernel_rfl, (fun _ => rfl), by kernel_rfl, (fun ks h => (by cases h))⟩
def i61 : TI := ⟨16, 176, [.int .u64 0, .int .i64 0, .int .i64 0, .slice none 0 0, .int .i64 0, .int .u64 0, .int .i64 0, .int .u64 0, .int .i64 0, .int .u64 0, .int .i64 0, .int .u64 0, .slice none 0 0, .slice none 0 0, .int .u64 0, .int .u64 0], .str [(0, 25), (6, 38), (8, 38), (10, 3), (11, 22), (12, 30), (13, 27), (14, 22), (15, 22)], none⟩
theorem o61 : TIok Try.prog 61 i61 := ⟨by kernel_rfl, by kernel_rfl, rfl, by kernel_rfl, (fun h => (by cases h)), by kernel_rfl, (fun ks h => (by cases h))⟩
def i64 : TI := ⟨1, 24, [.slice none 0 0], .slt 9, none⟩
theorem o64 : TIok Try.prog 64 i64 := ⟨by kernel_rfl, by kernel_rfl, rfl, by kernel_rfl, (fun _ => rfl), by kernel_rfl, (fun ks h => (by cases h))⟩
def i71 : TI := ⟨1, 24, [.slice none 0 0], .slt 78, none⟩
theorem o71 : TIok Try.prog 71 i71 := ⟨by kernel_rfl, by kernel_rfl, rfl, by kernel_rfl, (fun _ => rfl), by kernel_rfl, (fun ks h => (by cases h))⟩
def i72 : TI := ⟨1, 24, [.slice none 0 0], .slt 75, none⟩
theorem o72 : TIok Try.prog 72 i72 := ⟨by kernel_rfl, by kernel_rfl, rfl, by kernel_rfl, (fun _ => rfl), by kernel_rfl, (fun ks h => (by cases h))⟩
def i75 : TI := ⟨20, 208, [.int .i64 0, .int .u64 0, .int .i64 0, .int .u64 0, .int .u64 0, .int .u64 0, .int .u64 0, .int .i64 0, .slice none 0 0, .slice none 0 0, .int .i64 0, .int .u64 0, .int .i64 0, .int .i64 0, .int .u64 0, .int .u64 0, .int .u64 0, .int .u64 0, .slice none 0 0, .bool false], .str [(0, 49), (10, 40), (19, 4)], none⟩
theorem o75 : TIok Try.prog 75 i75 := ⟨by kernel_rfl, by kernel_rfl, rfl, by kernel_rfl, (fun h => (by cases h)), by kernel_rfl, (fun ks h => (by cases h))⟩
def i78 : TI := ⟨2, 16, [.int .i64 0, .int .i64 0], .str [(0, 3), (1, 3)], some [.int .i64, .int .i64]⟩
theorem o78 : TIok Try.prog 78 i78 := ⟨by kernel_rfl, by kernel_rfl, rfl, by kernel_rfl, (fun h => (by cases h)), by kernel_rfl, (fun ks h => (by cases h; exact ⟨EqOK_of_flat (by kernel_rfl) (by kernel_rfl), (by kernel_rfl)⟩))⟩
def i83 : TI := ⟨1, 24, [.slice none 0 0], .slt 90, none⟩
theorem o83 : TIok Try.prog 83 i83 := ⟨by kernel_rfl, by kernel_rfl, rfl, by kernel_rfl, (fun _ => rfl), by kernel_rfl, (fun ks h => (by cases h))⟩
def i86 : TI := ⟨18, 256, [.int .u64 0, .int .i64 0, .int .i64 0, .slice none 0 0, .int .i64 0, .int .u64 0, .int .u64 0, .int .i64 0, .slice none 0 0, .int .u64 0, .int .u64 0, .slice none 0 0, .slice none 0 0, .slice none 0 0, .slice none 0 0, .slice none 0 0, .int .u64 0, .int .u64 0], .str [(0, 25), (6, 22), (7, 3), (8, 30), (9, 22), (10, 22), (11, 30), (12, 30), (13, 27), (14, 23), (15, 30), (16, 22), (17, 22)], none⟩
theorem o86 : TIok Try.prog 86 i86 := ⟨by kernel_rfl, by kernel_rfl, rfl, by kernel_rfl, (fun h => (by cases h)), by kernel_rfl, (fun ks h => (by cases h))⟩
def i90 : TI := ⟨13, 136, [.int .i64 0, .int .i64 0, .int .u64 0, .int .i64 0, .int .u64 0, .int .i64 0, .int .i64 0, .int .u64 0, .int .u64 0, .int .u64 0, .int .u64 0, .slice none 0 0, .slice none 0 0], .str [(0, 3), (1, 3), (2, 22), (3, 40), (12, 30)], none⟩
theorem o90 : TIok Try.prog 90 i90 := ⟨by kernel_rfl, by kernel_rfl, rfl, by kernel_rfl, (fun h => (by cases h)), by kernel_rfl, (fun ks h => (by cases h))⟩
def i99 : TI := ⟨1, 8, [.pointer none], .ptrt 101, none⟩
theorem o99 : TIok Try.prog 99 i99 := ⟨by kernel_rfl, by kernel_rfl, rfl, by kernel_rfl, (fun _ => rfl), by kernel_rfl, (fun ks h => (by cases h))⟩
def i101 : TI := ⟨9, 120, [.int .u64 0, .int .u64 0, .slice none 0 0, .int .i64 0, .int .u64 0, .int .u64 0, .int .i64 0, .slice none 0 0, .slice none 0 0], .str [(0, 32), (8, 33)], none⟩
theorem o101 : TIok Try.prog 101 i101 := ⟨by kernel_rfl, by kernel_rfl, rfl, by kernel_rfl, (fun h => (by cases h)), by kernel_rfl, (fun ks h => (by cases h))⟩
def i106 : TI := ⟨2, 32, [.int .u64 0, .slice none 0 0], .str [(0, 22), (1, 30)], none⟩
theorem o106 : TIok Try.prog 106 i106 := ⟨by kernel_rfl, by kernel_rfl, rfl, by kernel_rfl, (fun h => (by cases h)), by kernel_rfl, (fun ks h => (by cases h))⟩
def i114 : TI := ⟨1, 24, [.slice none 0 0], .slt 25, none⟩
theorem o114 : TIok Try.prog 114 i114 := ⟨by kernel_rfl, by kernel_rfl, rfl, by kernel_rfl, (fun _ => rfl), by kernel_rfl, (fun ks h => (by cases h))⟩
def i115 : TI := ⟨1, 24, [.slice none 0 0], .slt 230, none⟩
theorem o115 : TIok Try.prog 115 i115 := ⟨by kernel_rfl, by kernel_rfl, rfl, by kernel_rfl, (fun _ => rfl), by kernel_rfl, (fun ks h => (by cases h))⟩
def i116 : TI := ⟨1, 24, [.slice none 0 0], .slt 234, none⟩
theorem o116 : TIok Try.prog 116 i116 := ⟨by kernel_rfl, by kernel_rfl, rfl, by kernel_rfl, (fun _ => rfl), by kernel_rfl, (fun ks h => (by cases h))⟩
def i118 : TI := ⟨5, 88, [.int .u64 0, .int .u64 0, .slice none 0 0, .slice none 0 0, .slice none 0 0], .str [(0, 22), (1, 22), (2, 115), (3, 114), (4, 116)], none⟩
theorem o118 : TIok Try.prog 118 i118 := ⟨by kernel_rfl, by kernel_rfl, rfl, by kernel_rfl, (fun h => (by cases h)), by kernel_rfl, (fun ks h => (by cases h))⟩
def i123 : TI := ⟨1, 8, [.pointer none], .ptrt 61, none⟩
theorem o123 : TIok Try.prog 123 i123 := ⟨by kernel_rfl, by kernel_rfl, rfl, by kernel_rfl, (fun _ => rfl), by kernel_rfl, (fun ks h => (by cases h))⟩
def i127 : TI := ⟨1, 8, [.nilFunc], .funt, none⟩
theorem o127 : TIok Try.prog 127 i127 := ⟨by kernel_rfl, by kernel_rfl, rfl, by kernel_rfl, (fun _ => rfl), by kernel_rfl, (fun ks h => (by cases h))⟩
def i132 : TI := ⟨1, 8, [.pointer none], .ptrt 135, none⟩
theorem o132 : TIok Try.prog 132 i132 := ⟨by kernel_rfl, by kernel_rfl, rfl, by kernel_rfl, (fun _ => rfl), by kernel_rfl, (fun ks h => (by cases h))⟩
def i135 : TI := ⟨19, 280, [.int .u64 0, .int .i64 0, .int .i64 0, .slice none 0 0, .int .i64 0, .int .u64 0, .int .u64 0, .int .i64 0, .slice none 0 0, .int .u64 0, .int .u64 0, .slice none 0 0, .slice none 0 0, .slice none 0 0, .slice none 0 0, .slice none 0 0, .int .u64 0, .int .u64 0, .slice none 0 0], .str [(0, 86), (18, 33)], none⟩
theorem o135 : TIok Try.prog 135 i135 := ⟨by kernel_rfl, by kernel_rfl, rfl, by kernel_rfl, (fun h => (by cases h)), by kernel_rfl, (fun ks h => (by cases h))⟩
def i150 : TI := ⟨1, 8, [.nilFunc], .funt, none⟩
theorem o150 : TIok Try.prog 150 i150 := ⟨by kernel_rfl, by kernel_rfl, rfl, by kernel_rfl, (fun _ => rfl), by kernel_rfl, (fun ks h => (by cases h))⟩
def i153 : TI := ⟨1, 8, [.nilFunc], .funt, none⟩
theorem o153 : TIok Try.prog 153 i153 := ⟨by kernel_rfl, by kernel_rfl, rfl, by kernel_rfl, (fun _ => rfl), by kernel_rfl, (fun ks h => (by cases h))⟩
def i171 : TI := ⟨1, 8, [.nilFunc], .funt, none⟩
theorem o171 : TIok Try.prog 171 i171 := ⟨by kernel_rfl, by kernel_rfl, rfl, by kernel_rfl, (fun _ => rfl), by kernel_rfl, (fun ks h => (by cases h))⟩
def i173 : TI := ⟨1, 8, [.nilFunc], .funt, none⟩
theorem o173 : TIok Try.prog 173 i173 := ⟨by kernel_rfl, by kernel_rfl, rfl, by kernel_rfl, (fun _ => rfl), by kernel_rfl, (fun ks h => (by cases h))⟩
def i184 : TI := ⟨1, 8, [.nilFunc], .funt, none⟩
theorem o184 : TIok Try.prog 184 i184 := ⟨by kernel_rfl, by kernel_rfl, rfl, by kernel_rfl, (fun _ => rfl), by kernel_rfl, (fun ks h => (by cases h))⟩
def i186 : TI := ⟨1, 8, [.nilFunc], .funt, none⟩
theorem o186 : TIok Try.prog 186 i186 := ⟨by kernel_rfl, by kernel_rfl, rfl, by kernel_rfl, (fun _ => rfl), by kernel_rfl, (fun ks h => (by cases h))⟩
def i193 : TI := ⟨1, 8, [.int .i64 0], .intt .i64, none⟩
theorem o193 : TIok Try.prog 193 i193 := ⟨by kernel_rfl, by kernel_rfl, rfl, by kernel_rfl, (fun _ => rfl), by kernel_rfl, (fun ks h => (by cases h))⟩
def i201 : TI := ⟨1, 4, [.int .u32 0], .intt .u32, none⟩
theorem o201 : TIok Try.prog 201 i201 := ⟨by kernel_rfl, by kernel_rfl, rfl, by kernel_rfl, (fun _ => rfl), by kernel_rfl, (fun ks h => (by cases h))⟩
def i203 : TI := ⟨1, 8, [.int .u64 0], .intt .u64, none⟩
theorem o203 : TIok Try.prog 203 i203 := ⟨by kernel_rfl, by kernel_rfl, rfl, by kernel_rfl, (fun _ => rfl), by kernel_rfl, (fun ks h => (by cases h))⟩
def i207 : TI := ⟨1, 8, [.pointer none], .ptrt 3, none⟩
theorem o207 : TIok Try.prog 207 i207 := ⟨by kernel_rfl, by kernel_rfl, rfl, by kernel_rfl, (fun _ => rfl), by kernel_rfl, (fun ks h => (by cases h))⟩
def i227 : TI := ⟨1, 24, [.slice none 0 0], .slt 237, none⟩
theorem o227 : TIok Try.prog 227 i227 := ⟨by kernel_rfl, by kernel_rfl, rfl, by kernel_rfl, (fun _ => rfl), by kernel_rfl, (fun ks h => (by cases h))⟩
def i228 : TI := ⟨1, 24, [.slice none 0 0], .slt 239, none⟩
theorem o228 : TIok Try.prog 228 i228 := ⟨by kernel_rfl, by kernel_rfl, rfl, by kernel_rfl, (fun _ => rfl), by kernel_rfl, (fun ks h => (by cases h))⟩
def i230 : TI := ⟨9, 120, [.int .u64 0, .int .i64 0, .int .u64 0, .int .u64 0, .int .u64 0, .int .u64 0, .slice none 0 0, .slice none 0 0, .slice none 0 0], .str [(0, 22), (1, 3), (2, 22), (3, 22), (4, 22), (5, 22), (6, 47), (7, 227), (8, 228)], none⟩
theorem o230 : TIok Try.prog 230 i230 := ⟨by kernel_rfl, by kernel_rfl, rfl, by kernel_rfl, (fun h => (by cases h)), by kernel_rfl, (fun ks h => (by cases h))⟩
def i232 : TI := ⟨5, 40, [.int .i64 0, .int .u64 0, .int .u64 0, .int .u64 0, .int .i64 0], .str [(0, 34), (1, 22), (2, 22), (3, 22), (4, 3)], some [.int .i64, .int .u64, .int .u64, .int .u64, .int .i64]⟩
theorem o232 : TIok Try.prog 232 i232 := ⟨by kernel_rfl, by kernel_rfl, rfl, by kernel_rfl, (fun h => (by cases h)), by kernel_rfl, (fun ks h => (by cases h; exact ⟨EqOK_of_flat (by kernel_rfl) (by kernel_rfl), (by kernel_rfl)⟩))⟩
def i234 : TI := ⟨8, 64, [.int .i64 0, .int .u64 0, .int .u64 0, .int .i64 0, .int .u64 0, .int .u64 0, .int .u64 0, .int .i64 0], .str [(0, 3), (1, 22), (2, 22), (3, 232)], some [.int .i64, .int .u64, .int .u64, .int .i64, .int .u64, .int .u64, .int .u64, .int .i64]⟩
theorem o234 : TIok Try.prog 234 i234 := ⟨by kernel_rfl, by kernel_rfl, rfl, by kernel_rfl, (fun h => (by cases h)), by kernel_rfl, (fun ks h => (by cases h; exact ⟨EqOK_of_flat (by kernel_rfl) (by kernel_rfl), (by kernel_rfl)⟩))⟩
def i237 : TI := ⟨3, 24, [.int .i64 0, .int .u64 0, .int .u64 0], .str [(0, 3), (1, 22), (2, 22)], some [.int .i64, .int .u64, .int .u64]⟩
theorem o237 : TIok Try.prog 237 i237 := ⟨by kernel_rfl, by kernel_rfl, rfl, by kernel_rfl, (fun h => (by cases h)), by kernel_rfl, (fun ks h => (by cases h; exact ⟨EqOK_of_flat (by kernel_rfl) (by kernel_rfl), (by kernel_rfl)⟩))⟩
def i239 : TI := ⟨2, 16, [.int .i64 0, .int .u64 0], .str [(0, 3), (1, 22)], some [.int .i64, .int .u64]⟩
theorem o239 : TIok Try.prog 239 i239 := ⟨by kernel_rfl, by kernel_rfl, rfl, by kernel_rfl, (fun h => (by cases h)), by kernel_rfl, (fun ks h => (by cases h; exact ⟨EqOK_of_flat (by kernel_rfl) (by kernel_rfl), (by kernel_rfl)⟩))⟩
def tab : Tab := [(3, i3), (4, i4), (5, i5), (9, i9), (22, i22), (23, i23), (25, i25), (26, i26), (27, i27), (30, i30), (32, i32), (33, i33), (34, i34), (38, i38), (40, i40), (42, i42), (47, i47), (49, i49), (50, i50), (61, i61), (64, i64), (71, i71), (72, i72), (75, i75), (78, i78), (83, i83), (86, i86), (90, i90), (99, i99), (101, i101), (106, i106), (114, i114), (115, i115), (116, i116), (118, i118), (123, i123), (127, i127), (132, i132), (135, i135), (150, i150), (153, i153), (171, i171), (173, i173), (184, i184), (186, i186), (193, i193), (201, i201), (203, i203), (207, i207), (227, i227), (228, i228), (230, i230), (232, i232), (234, i234), (237, i237), (239, i239)]
theorem tabOk : TabOk Try.prog tab := TabOk_of_list (by
  intro x hx
  simp only [tab, List.mem_cons, List.mem_nil_iff, or_false] at hx
  rcases hx with rfl | rfl | rfl | rfl | rfl | rfl | rfl | rfl | rfl | rfl | rfl | rfl | rfl | rfl | rfl | rfl | rfl | rfl | rfl | rfl | rfl | rfl | rfl | rfl | rfl | rfl | rfl | rfl | rfl | rfl | rfl | rfl | rfl | rfl | rfl | rfl | rfl | rfl | rfl | rfl | rfl | rfl | rfl | rfl | rfl | rfl | rfl | rfl | rfl | rfl | rfl | rfl | rfl | rfl | rfl | rfl
  · exact o3
  · exact o4
  · exact o5
  · exact o9
  · exact o22
  · exact o23
  · exact o25
  · exact o26
  · exact o27
  · exact o30
  · exact o32
  · exact o33
  · exact o34
  · exact o38
  · exact o40
  · exact o42
  · exact o47
  · exact o49
  · exact o50
  · exact o61
  · exact o64
  · exact o71
  · exact o72
  · exact o75
  · exact o78
  · exact o83
  · exact o86
  · exact o90
  · exact o99
  · exact o101
  · exact o106
  · exact o114
  · exact o115
  · exact o116
  · exact o118
  · exact o123
  · exact o127
  · exact o132
  · exact o135
  · exact o150
  · exact o153
  · exact o171
  · exact o173
  · exact o184
  · exact o186
  · exact o193
  · exact o201
  · exact o203
  · exact o207
  · exact o227
  · exact o228
  · exact o230
  · exact o232
  · exact o234
  · exact o237
  · exact o239)
end Go.Proofs.Ytibbgchpgfpccaa.Tb
