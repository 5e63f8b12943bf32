/-
  Contracts of functions of the program and of the document, each for every input that its premises name.
-/
import Derived.Test.YtgblabmhgdiicaaGreatAd
import Derived.Test.YtgblabmhgdiicaaGreatChecked
import Derived.KernelRfl
set_option linter.unusedSectionVars false
set_option maxRecDepth 100000
open Go Go.AX
namespace Go.Proofs.YtgblabmhgdiicaaGreat.Tb
def i3 : TI := ⟨1, 8, [.int .i64 0], .intt .i64, none⟩
theorem o3 : TIok Tryz.prog 3 i3 := ⟨by kernel_rfl, by kernel_rfl, rfl, by kernel_rfl, (fun _ => rfl), by kernel_rfl, (fun ks h => (by cases h))⟩
def i5 : TI := ⟨1, 1, [.int .u8 0], .intt .u8, none⟩
theorem o5 : TIok Tryz.prog 5 i5 := ⟨by kernel_rfl, by kernel_rfl, rfl, by kernel_rfl, (fun _ => rfl), by kernel_rfl, (fun ks h => (by cases h))⟩
def i9 : TI := ⟨1, 16, [.string ByteArray.empty], .strt, none⟩
theorem o9 : TIok Tryz.prog 9 i9 := ⟨by kernel_rfl, by kernel_rfl, rfl, by kernel_rfl, (fun _ => rfl), by kernel_rfl, (fun ks h => (by cases h))⟩
def i22 : TI := ⟨1, 8, [.int .u64 0], .intt .u64, none⟩
theorem o22 : TIok Tryz.prog 22 i22 := ⟨by kernel_rfl, by kernel_rfl, rfl, by kernel_rfl, (fun _ => rfl), by kernel_rfl, (fun ks h => (by cases h))⟩
def i23 : TI := ⟨1, 24, [.slice none 0 0], .slt 42, none⟩
theorem o23 : TIok Tryz.prog 23 i23 := ⟨by kernel_rfl, by kernel_rfl, rfl, by kernel_rfl, (fun _ => rfl), by kernel_rfl, (fun ks h => (by cases h))⟩
def i24 : TI := ⟨1, 24, [.slice none 0 0], .slt 56, none⟩
theorem o24 : TIok Tryz.prog 24 i24 := ⟨by kernel_rfl, by kernel_rfl, rfl, by kernel_rfl, (fun _ => rfl), by kernel_rfl, (fun ks h => (by cases h))⟩
def i25 : TI := ⟨1, 24, [.slice none 0 0], .slt 75, none⟩
theorem o25 : TIok Tryz.prog 25 i25 := ⟨by kernel_rfl, by kernel_rfl, rfl, by kernel_rfl, (fun _ => rfl), by kernel_rfl, (fun ks h => (by cases h))⟩
def i27 : TI := ⟨5, 88, [.int .u64 0, .int .u64 0, .slice none 0 0, .slice none 0 0, .slice none 0 0], .str [(0, 22), (1, 22), (2, 23), (3, 24), (4, 25)], none⟩
theorem o27 : TIok Tryz.prog 27 i27 := ⟨by kernel_rfl, by kernel_rfl, rfl, by kernel_rfl, (fun h => (by cases h)), by kernel_rfl, (fun ks h => (by cases h))⟩
def i30 : TI := ⟨1, 24, [.slice none 0 0], .slt 33, none⟩
theorem o30 : TIok Tryz.prog 30 i30 := ⟨by kernel_rfl, by kernel_rfl, rfl, by kernel_rfl, (fun _ => rfl), by kernel_rfl, (fun ks h => (by cases h))⟩
def i33 : TI := ⟨3, 24, [.int .u64 0, .int .u64 0, .int .u64 0], .str [(0, 22), (1, 22), (2, 22)], some [.int .u64, .int .u64, .int .u64]⟩
theorem o33 : TIok Tryz.prog 33 i33 := ⟨by kernel_rfl, by kernel_rfl, rfl, by kernel_rfl, (fun h => (by cases h)), by kernel_rfl, (fun ks h => (by cases h; exact ⟨EqOK_of_flat (by kernel_rfl) (by kernel_rfl), (by kernel_rfl)⟩))⟩
def i34 : TI := ⟨1, 8, [.int .i64 0], .intt .i64, none⟩
theorem o34 : TIok Tryz.prog 34 i34 := ⟨by kernel_rfl, by kernel_rfl, rfl, by kernel_rfl, (fun _ => rfl), by kernel_rfl, (fun ks h => (by cases h))⟩
def i38 : TI := ⟨1, 24, [.slice none 0 0], .slt 22, none⟩
theorem o38 : TIok Tryz.prog 38 i38 := ⟨by kernel_rfl, by kernel_rfl, rfl, by kernel_rfl, (fun _ => rfl), by kernel_rfl, (fun ks h => (by cases h))⟩
def i39 : TI := ⟨1, 24, [.slice none 0 0], .slt 135, none⟩
theorem o39 : TIok Tryz.prog 39 i39 := ⟨by kernel_rfl, by kernel_rfl, rfl, by kernel_rfl, (fun _ => rfl), by kernel_rfl, (fun ks h => (by cases h))⟩
def i40 : TI := ⟨1, 24, [.slice none 0 0], .slt 105, none⟩
theorem o40 : TIok Tryz.prog 40 i40 := ⟨by kernel_rfl, by kernel_rfl, rfl, by kernel_rfl, (fun _ => rfl), by kernel_rfl, (fun ks h => (by cases h))⟩
def i42 : TI := ⟨9, 120, [.int .u64 0, .int .i64 0, .int .u64 0, .int .u64 0, .int .u64 0, .int .u64 0, .slice none 0 0, .slice none 0 0, .slice none 0 0], .str [(0, 22), (1, 3), (2, 22), (3, 22), (4, 22), (5, 22), (6, 38), (7, 39), (8, 40)], none⟩
theorem o42 : TIok Tryz.prog 42 i42 := ⟨by kernel_rfl, by kernel_rfl, rfl, by kernel_rfl, (fun h => (by cases h)), by kernel_rfl, (fun ks h => (by cases h))⟩
def i54 : TI := ⟨1, 24, [.slice none 0 0], .slt 87, none⟩
theorem o54 : TIok Tryz.prog 54 i54 := ⟨by kernel_rfl, by kernel_rfl, rfl, by kernel_rfl, (fun _ => rfl), by kernel_rfl, (fun ks h => (by cases h))⟩
def i56 : TI := ⟨6, 64, [.int .u64 0, .int .i64 0, .int .i64 0, .slice none 0 0, .int .i64 0, .int .u64 0], .str [(0, 22), (1, 3), (2, 3), (3, 54), (4, 3), (5, 22)], none⟩
theorem o56 : TIok Tryz.prog 56 i56 := ⟨by kernel_rfl, by kernel_rfl, rfl, by kernel_rfl, (fun h => (by cases h)), by kernel_rfl, (fun ks h => (by cases h))⟩
def i60 : TI := ⟨1, 8, [.nilFunc], .funt, none⟩
theorem o60 : TIok Tryz.prog 60 i60 := ⟨by kernel_rfl, by kernel_rfl, rfl, by kernel_rfl, (fun _ => rfl), by kernel_rfl, (fun ks h => (by cases h))⟩
def i67 : TI := ⟨1, 8, [.nilFunc], .funt, none⟩
theorem o67 : TIok Tryz.prog 67 i67 := ⟨by kernel_rfl, by kernel_rfl, rfl, by kernel_rfl, (fun _ => rfl), by kernel_rfl, (fun ks h => (by cases h))⟩
def i69 : TI := ⟨1, 8, [.nilFunc], .funt, none⟩
theorem o69 : TIok Tryz.prog 69 i69 := ⟨by kernel_rfl, by kernel_rfl, rfl, by kernel_rfl, (fun _ => rfl), by kernel_rfl, (fun ks h => (by cases h))⟩
def i73 : TI := ⟨5, 40, [.int .i64 0, .int .u64 0, .int .u64 0, .int .u64 0, .int .i64 0], .str [(0, 34), (1, 22), (2, 22), (3, 22), (4, 3)], some [.int .i64, .int .u64, .int .u64, .int .u64, .int .i64]⟩
theorem o73 : TIok Tryz.prog 73 i73 := ⟨by kernel_rfl, by kernel_rfl, rfl, by kernel_rfl, (fun h => (by cases h)), by kernel_rfl, (fun ks h => (by cases h; exact ⟨EqOK_of_flat (by kernel_rfl) (by kernel_rfl), (by kernel_rfl)⟩))⟩
def i75 : TI := ⟨8, 64, [.int .i64 0, .int .u64 0, .int .u64 0, .int .i64 0, .int .u64 0, .int .u64 0, .int .u64 0, .int .i64 0], .str [(0, 3), (1, 22), (2, 22), (3, 73)], some [.int .i64, .int .u64, .int .u64, .int .i64, .int .u64, .int .u64, .int .u64, .int .i64]⟩
theorem o75 : TIok Tryz.prog 75 i75 := ⟨by kernel_rfl, by kernel_rfl, rfl, by kernel_rfl, (fun h => (by cases h)), by kernel_rfl, (fun ks h => (by cases h; exact ⟨EqOK_of_flat (by kernel_rfl) (by kernel_rfl), (by kernel_rfl)⟩))⟩
def i76 : TI := ⟨1, 8, [.nilFunc], .funt, none⟩
theorem o76 : TIok Tryz.prog 76 i76 := ⟨by kernel_rfl, by kernel_rfl, rfl, by kernel_rfl, (fun _ => rfl), by kernel_rfl, (fun ks h => (by cases h))⟩
def i78 : TI := ⟨1, 8, [.nilFunc], .funt, none⟩
theorem o78 : TIok Tryz.prog 78 i78 := ⟨by kernel_rfl, by kernel_rfl, rfl, by kernel_rfl, (fun _ => rfl), by kernel_rfl, (fun ks h => (by cases h))⟩
def i80 : TI := ⟨1, 8, [.nilFunc], .funt, none⟩
theorem o80 : TIok Tryz.prog 80 i80 := ⟨by kernel_rfl, by kernel_rfl, rfl, by kernel_rfl, (fun _ => rfl), by kernel_rfl, (fun ks h => (by cases h))⟩
def i85 : TI := ⟨1, 24, [.slice none 0 0], .slt 112, none⟩
theorem o85 : TIok Tryz.prog 85 i85 := ⟨by kernel_rfl, by kernel_rfl, rfl, by kernel_rfl, (fun _ => rfl), by kernel_rfl, (fun ks h => (by cases h))⟩
def i87 : TI := ⟨2, 32, [.int .u64 0, .slice none 0 0], .str [(0, 22), (1, 85)], none⟩
theorem o87 : TIok Tryz.prog 87 i87 := ⟨by kernel_rfl, by kernel_rfl, rfl, by kernel_rfl, (fun h => (by cases h)), by kernel_rfl, (fun ks h => (by cases h))⟩
def i92 : TI := ⟨1, 8, [.int .u64 0], .intt .u64, none⟩
theorem o92 : TIok Tryz.prog 92 i92 := ⟨by kernel_rfl, by kernel_rfl, rfl, by kernel_rfl, (fun _ => rfl), by kernel_rfl, (fun ks h => (by cases h))⟩
def i94 : TI := ⟨1, 8, [.nilFunc], .funt, none⟩
theorem o94 : TIok Tryz.prog 94 i94 := ⟨by kernel_rfl, by kernel_rfl, rfl, by kernel_rfl, (fun _ => rfl), by kernel_rfl, (fun ks h => (by cases h))⟩
def i101 : TI := ⟨1, 8, [.nilFunc], .funt, none⟩
theorem o101 : TIok Tryz.prog 101 i101 := ⟨by kernel_rfl, by kernel_rfl, rfl, by kernel_rfl, (fun _ => rfl), by kernel_rfl, (fun ks h => (by cases h))⟩
def i105 : TI := ⟨2, 16, [.int .i64 0, .int .u64 0], .str [(0, 3), (1, 22)], some [.int .i64, .int .u64]⟩
theorem o105 : TIok Tryz.prog 105 i105 := ⟨by kernel_rfl, by kernel_rfl, rfl, by kernel_rfl, (fun h => (by cases h)), by kernel_rfl, (fun ks h => (by cases h; exact ⟨EqOK_of_flat (by kernel_rfl) (by kernel_rfl), (by kernel_rfl)⟩))⟩
def i106 : TI := ⟨1, 8, [.nilFunc], .funt, none⟩
theorem o106 : TIok Tryz.prog 106 i106 := ⟨by kernel_rfl, by kernel_rfl, rfl, by kernel_rfl, (fun _ => rfl), by kernel_rfl, (fun ks h => (by cases h))⟩
def i108 : TI := ⟨1, 8, [.nilFunc], .funt, none⟩
theorem o108 : TIok Tryz.prog 108 i108 := ⟨by kernel_rfl, by kernel_rfl, rfl, by kernel_rfl, (fun _ => rfl), by kernel_rfl, (fun ks h => (by cases h))⟩
def i112 : TI := ⟨2, 16, [.int .i64 0, .int .u64 0], .str [(0, 3), (1, 22)], some [.int .i64, .int .u64]⟩
theorem o112 : TIok Tryz.prog 112 i112 := ⟨by kernel_rfl, by kernel_rfl, rfl, by kernel_rfl, (fun h => (by cases h)), by kernel_rfl, (fun ks h => (by cases h; exact ⟨EqOK_of_flat (by kernel_rfl) (by kernel_rfl), (by kernel_rfl)⟩))⟩
def i114 : TI := ⟨1, 8, [.int .i64 0], .intt .i64, none⟩
theorem o114 : TIok Tryz.prog 114 i114 := ⟨by kernel_rfl, by kernel_rfl, rfl, by kernel_rfl, (fun _ => rfl), by kernel_rfl, (fun ks h => (by cases h))⟩
def i123 : TI := ⟨1, 4, [.int .u32 0], .intt .u32, none⟩
theorem o123 : TIok Tryz.prog 123 i123 := ⟨by kernel_rfl, by kernel_rfl, rfl, by kernel_rfl, (fun _ => rfl), by kernel_rfl, (fun ks h => (by cases h))⟩
def i129 : TI := ⟨1, 8, [.nilFunc], .funt, none⟩
theorem o129 : TIok Tryz.prog 129 i129 := ⟨by kernel_rfl, by kernel_rfl, rfl, by kernel_rfl, (fun _ => rfl), by kernel_rfl, (fun ks h => (by cases h))⟩
def i131 : TI := ⟨1, 8, [.nilFunc], .funt, none⟩
theorem o131 : TIok Tryz.prog 131 i131 := ⟨by kernel_rfl, by kernel_rfl, rfl, by kernel_rfl, (fun _ => rfl), by kernel_rfl, (fun ks h => (by cases h))⟩
def i135 : TI := ⟨3, 24, [.int .i64 0, .int .u64 0, .int .u64 0], .str [(0, 3), (1, 22), (2, 22)], some [.int .i64, .int .u64, .int .u64]⟩
theorem o135 : TIok Tryz.prog 135 i135 := ⟨by kernel_rfl, by kernel_rfl, rfl, by kernel_rfl, (fun h => (by cases h)), by kernel_rfl, (fun ks h => (by cases h; exact ⟨EqOK_of_flat (by kernel_rfl) (by kernel_rfl), (by kernel_rfl)⟩))⟩
def i138 : TI := ⟨1, 8, [.nilFunc], .funt, none⟩
theorem o138 : TIok Tryz.prog 138 i138 := ⟨by kernel_rfl, by kernel_rfl, rfl, by kernel_rfl, (fun _ => rfl), by kernel_rfl, (fun ks h => (by cases h))⟩
def i140 : TI := ⟨1, 8, [.nilFunc], .funt, none⟩
theorem o140 : TIok Tryz.prog 140 i140 := ⟨by kernel_rfl, by kernel_rfl, rfl, by kernel_rfl, (fun _ => rfl), by kernel_rfl, (fun ks h => (by cases h))⟩
def i142 : TI := ⟨1, 8, [.nilFunc], .funt, none⟩
theorem o142 : TIok Tryz.prog 142 i142 := ⟨by kernel_rfl, by kernel_rfl, rfl, by kernel_rfl, (fun _ => rfl), by kernel_rfl, (fun ks h => (by cases h))⟩
def i144 : TI := ⟨1, 8, [.nilFunc], .funt, none⟩
theorem o144 : TIok Tryz.prog 144 i144 := ⟨by kernel_rfl, by kernel_rfl, rfl, by kernel_rfl, (fun _ => rfl), by kernel_rfl, (fun ks h => (by cases h))⟩
def i149 : TI := ⟨1, 8, [.int .u64 0], .intt .u64, none⟩
theorem o149 : TIok Tryz.prog 149 i149 := ⟨by kernel_rfl, by kernel_rfl, rfl, by kernel_rfl, (fun _ => rfl), by kernel_rfl, (fun ks h => (by cases h))⟩
def i153 : TI := ⟨1, 8, [.pointer none], .ptrt 3, none⟩
theorem o153 : TIok Tryz.prog 153 i153 := ⟨by kernel_rfl, by kernel_rfl, rfl, by kernel_rfl, (fun _ => rfl), by kernel_rfl, (fun ks h => (by cases h))⟩
def i158 : TI := ⟨1, 8, [.nilFunc], .funt, none⟩
theorem o158 : TIok Tryz.prog 158 i158 := ⟨by kernel_rfl, by kernel_rfl, rfl, by kernel_rfl, (fun _ => rfl), by kernel_rfl, (fun ks h => (by cases h))⟩
def i160 : TI := ⟨1, 8, [.nilFunc], .funt, none⟩
theorem o160 : TIok Tryz.prog 160 i160 := ⟨by kernel_rfl, by kernel_rfl, rfl, by kernel_rfl, (fun _ => rfl), by kernel_rfl, (fun ks h => (by cases h))⟩
def i162 : TI := ⟨1, 8, [.nilFunc], .funt, none⟩
theorem o162 : TIok Tryz.prog 162 i162 := ⟨by kernel_rfl, by kernel_rfl, rfl, by kernel_rfl, (fun _ => rfl), by kernel_rfl, (fun ks h => (by cases h))⟩
def i164 : TI := ⟨1, 8, [.nilFunc], .funt, none⟩
theorem o164 : TIok Tryz.prog 164 i164 := ⟨by kernel_rfl, by kernel_rfl, rfl, by kernel_rfl, (fun _ => rfl), by kernel_rfl, (fun ks h => (by cases h))⟩
def tab : Tab := [(3, i3), (5, i5), (9, i9), (22, i22), (23, i23), (24, i24), (25, i25), (27, i27), (30, i30), (33, i33), (34, i34), (38, i38), (39, i39), (40, i40), (42, i42), (54, i54), (56, i56), (60, i60), (67, i67), (69, i69), (73, i73), (75, i75), (76, i76), (78, i78), (80, i80), (85, i85), (87, i87), (92, i92), (94, i94), (101, i101), (105, i105), (106, i106), (108, i108), (112, i112), (114, i114), (123, i123), (129, i129), (131, i131), (135, i135), (138, i138), (140, i140), (142, i142), (144, i144), (149, i149), (153, i153), (158, i158), (160, i160), (162, i162), (164, i164)]
theorem tabOk : TabOk Tryz.prog tab := TabOk_of_list (by
  intro x hx
  simp only [tab, List.mem_cons, List.mem_nil_iff, or_false] at hx
  rcases hx with rfl | rfl | rfl | rfl | rfl | rfl | rfl | rfl | rfl | rfl | rfl | rfl | rfl | rfl | rfl | rfl | rfl | rfl | rfl | rfl | rfl | rfl | rfl | rfl | rfl | rfl | rfl | rfl | rfl | rfl | rfl | rfl | rfl | rfl | rfl | rfl | rfl | rfl | rfl | rfl | rfl | rfl | rfl | rfl | rfl | rfl | rfl | rfl | rfl
  · exact o3
  · exact o5
  · exact o9
  · exact o22
  · exact o23
  · exact o24
  · exact o25
  · exact o27
  · exact o30
  · exact o33
  · exact o34
  · exact o38
  · exact o39
  · exact o40
  · exact o42
  · exact o54
  · exact o56
  · exact o60
  · exact o67
  · exact o69
  · exact o73
  · exact o75
  · exact o76
  · exact o78
  · exact o80
  · exact o85
  · exact o87
  · exact o92
  · exact o94
  · exact o101
  · exact o105
  · exact o106
  · exact o108
  · exact o112
  · exact o114
  · exact o123
  · exact o129
  · exact o131
  · exact o135
  · exact o138
  · exact o140
  · exact o142
  · exact o144
  · exact o149
  · exact o153
  · exact o158
  · exact o160
  · exact o162
  · exact o164)
end Go.Proofs.YtgblabmhgdiicaaGreat.Tb
