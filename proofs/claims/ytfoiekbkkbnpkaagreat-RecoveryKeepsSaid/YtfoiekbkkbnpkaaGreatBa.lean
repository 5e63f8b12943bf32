/-
  Contracts of functions of the program and of the document, each for every input that its premises name.
-/
import Derived.Test.YtfoiekbkkbnpkaaGreatAe
import Derived.Test.YtfoiekbkkbnpkaaGreatChecked
import Derived.KernelRfl
import Derived.Test.YtfoiekbkkbnpkaaGreatAf
set_option linter.unusedSectionVars false
set_option linter.unusedVariables false
set_option linter.unusedSimpArgs false
set_option maxRecDepth 100000
set_option maxHeartbeats 4000000
set_option linter.unnecessarySimpa false
section
open Go Go.Proofs.Tryz Go.AX
namespace Go.Proofs.YtfoiekbkkbnpkaaGreat.Tb
def i3:TI:=⟨1,8,[.int .i64 0],.xC .i64,none⟩
theorem o3:dw prog 3 i3:=⟨by kernel_rfl,by kernel_rfl,rfl,by kernel_rfl,(fun _=>rfl),by kernel_rfl,(fun ks h=>(by cases h))⟩
def i4:TI:=⟨1,1,[.bool false],.XA,none⟩
theorem o4:dw prog 4 i4:=⟨by kernel_rfl,by kernel_rfl,rfl,by kernel_rfl,(fun _=>rfl),by kernel_rfl,(fun ks h=>(by cases h))⟩
def i5:TI:=⟨1,1,[.int .u8 0],.xC .u8,none⟩
theorem o5:dw prog 5 i5:=⟨by kernel_rfl,by kernel_rfl,rfl,by kernel_rfl,(fun _=>rfl),by kernel_rfl,(fun ks h=>(by cases h))⟩
def i9:TI:=⟨1,16,[.string ByteArray.empty],.KI,none⟩
theorem o9:dw prog 9 i9:=⟨by kernel_rfl,by kernel_rfl,rfl,by kernel_rfl,(fun _=>rfl),by kernel_rfl,(fun ks h=>(by cases h))⟩
def i22:TI:=⟨1,8,[.int .u64 0],.xC .u64,none⟩
theorem o22:dw prog 22 i22:=⟨by kernel_rfl,by kernel_rfl,rfl,by kernel_rfl,(fun _=>rfl),by kernel_rfl,(fun ks h=>(by cases h))⟩
def i23:TI:=⟨1,24,[.slice none 0 0],.slt 48,none⟩
theorem o23:dw prog 23 i23:=⟨by kernel_rfl,by kernel_rfl,rfl,by kernel_rfl,(fun _=>rfl),by kernel_rfl,(fun ks h=>(by cases h))⟩
def i25:TI:=⟨6,64,[.int .u64 0,.int .i64 0,.int .i64 0,.slice none 0 0,.int .i64 0,.int .u64 0],.str [(0,22),(1,3),(2,3),(3,23),(4,3),(5,22)],none⟩
theorem o25:dw prog 25 i25:=⟨by kernel_rfl,by kernel_rfl,rfl,by kernel_rfl,(fun h=>(by cases h)),by kernel_rfl,(fun ks h=>(by cases h))⟩
def i27:TI:=⟨2,16,[.int .i64 0,.int .u64 0],.str [(0,3),(1,22)],some [.int .i64,.int .u64]⟩
theorem o27:dw prog 27 i27:=⟨by kernel_rfl,by kernel_rfl,rfl,by kernel_rfl,(fun h=>(by cases h)),by kernel_rfl,(fun ks h=>(by cases h;exact⟨iy (by kernel_rfl) (by kernel_rfl),(by kernel_rfl)⟩))⟩
def i28:TI:=⟨1,24,[.slice none 0 0],.slt 27,none⟩
theorem o28:dw prog 28 i28:=⟨by kernel_rfl,by kernel_rfl,rfl,by kernel_rfl,(fun _=>rfl),by kernel_rfl,(fun ks h=>(by cases h))⟩
def i29:TI:=⟨1,24,[.slice none 0 0],.slt 5,none⟩
theorem o29:dw prog 29 i29:=⟨by kernel_rfl,by kernel_rfl,rfl,by kernel_rfl,(fun _=>rfl),by kernel_rfl,(fun ks h=>(by cases h))⟩
def i31:TI:=⟨16,176,[.int .u64 0,.int .i64 0,.int .i64 0,.slice none 0 0,.int .i64 0,.int .u64 0,.int .i64 0,.int .u64 0,.int .i64 0,.int .u64 0,.int .i64 0,.int .u64 0,.slice none 0 0,.slice none 0 0,.int .u64 0,.int .u64 0],.str [(0,25),(6,27),(8,27),(10,3),(11,22),(12,28),(13,29),(14,22),(15,22)],none⟩
theorem o31:dw prog 31 i31:=⟨by kernel_rfl,by kernel_rfl,rfl,by kernel_rfl,(fun h=>(by cases h)),by kernel_rfl,(fun ks h=>(by cases h))⟩
def i33:TI:=⟨9,88,[.int .i64 0,.int .u64 0,.int .i64 0,.int .i64 0,.int .u64 0,.int .u64 0,.int .u64 0,.int .u64 0,.slice none 0 0],.str [(0,27),(2,3),(3,3),(4,22),(5,22),(6,22),(7,22),(8,29)],none⟩
theorem o33:dw prog 33 i33:=⟨by kernel_rfl,by kernel_rfl,rfl,by kernel_rfl,(fun h=>(by cases h)),by kernel_rfl,(fun ks h=>(by cases h))⟩
def i38:TI:=⟨1,24,[.slice none 0 0],.slt 93,none⟩
theorem o38:dw prog 38 i38:=⟨by kernel_rfl,by kernel_rfl,rfl,by kernel_rfl,(fun _=>rfl),by kernel_rfl,(fun ks h=>(by cases h))⟩
def i44:TI:=⟨1,24,[.slice none 0 0],.slt 63,none⟩
theorem o44:dw prog 44 i44:=⟨by kernel_rfl,by kernel_rfl,rfl,by kernel_rfl,(fun _=>rfl),by kernel_rfl,(fun ks h=>(by cases h))⟩
def i46:TI:=⟨1,24,[.slice none 0 0],.slt 145,none⟩
theorem o46:dw prog 46 i46:=⟨by kernel_rfl,by kernel_rfl,rfl,by kernel_rfl,(fun _=>rfl),by kernel_rfl,(fun ks h=>(by cases h))⟩
def i48:TI:=⟨2,32,[.int .u64 0,.slice none 0 0],.str [(0,22),(1,28)],none⟩
theorem o48:dw prog 48 i48:=⟨by kernel_rfl,by kernel_rfl,rfl,by kernel_rfl,(fun h=>(by cases h)),by kernel_rfl,(fun ks h=>(by cases h))⟩
def i50:TI:=⟨14,176,[.int .u64 0,.int .i64 0,.int .i64 0,.slice none 0 0,.int .i64 0,.int .u64 0,.int .u64 0,.int .u64 0,.int .u64 0,.slice none 0 0,.slice none 0 0,.int .u64 0,.slice none 0 0,.int .i64 0],.str [(0,25),(6,22),(7,22),(8,22),(9,46),(10,28),(11,48),(13,3)],none⟩
theorem o50:dw prog 50 i50:=⟨by kernel_rfl,by kernel_rfl,rfl,by kernel_rfl,(fun h=>(by cases h)),by kernel_rfl,(fun ks h=>(by cases h))⟩
def i51:TI:=⟨1,8,[.int .i64 0],.xC .i64,none⟩
theorem o51:dw prog 51 i51:=⟨by kernel_rfl,by kernel_rfl,rfl,by kernel_rfl,(fun _=>rfl),by kernel_rfl,(fun ks h=>(by cases h))⟩
def i55:TI:=⟨1,8,[.pointer none],.Gc 61,none⟩
theorem o55:dw prog 55 i55:=⟨by kernel_rfl,by kernel_rfl,rfl,by kernel_rfl,(fun _=>rfl),by kernel_rfl,(fun ks h=>(by cases h))⟩
def i57:TI:=⟨1,24,[.slice none 0 0],.slt 136,none⟩
theorem o57:dw prog 57 i57:=⟨by kernel_rfl,by kernel_rfl,rfl,by kernel_rfl,(fun _=>rfl),by kernel_rfl,(fun ks h=>(by cases h))⟩
def i58:TI:=⟨1,24,[.slice none 0 0],.slt 140,none⟩
theorem o58:dw prog 58 i58:=⟨by kernel_rfl,by kernel_rfl,rfl,by kernel_rfl,(fun _=>rfl),by kernel_rfl,(fun ks h=>(by cases h))⟩
def i59:TI:=⟨1,24,[.slice none 0 0],.slt 9,none⟩
theorem o59:dw prog 59 i59:=⟨by kernel_rfl,by kernel_rfl,rfl,by kernel_rfl,(fun _=>rfl),by kernel_rfl,(fun ks h=>(by cases h))⟩
def i61:TI:=⟨22,320,[.int .u64 0,.int .i64 0,.int .i64 0,.slice none 0 0,.int .i64 0,.int .u64 0,.int .u64 0,.int .u64 0,.int .u64 0,.slice none 0 0,.slice none 0 0,.int .u64 0,.slice none 0 0,.int .i64 0,.slice none 0 0,.int .u64 0,.slice none 0 0,.int .i64 0,.int .u64 0,.slice none 0 0,.slice none 0 0,.slice none 0 0],.str [(0,50),(14,23),(15,48),(17,3),(18,22),(19,57),(20,58),(21,59)],none⟩
theorem o61:dw prog 61 i61:=⟨by kernel_rfl,by kernel_rfl,rfl,by kernel_rfl,(fun h=>(by cases h)),by kernel_rfl,(fun ks h=>(by cases h))⟩
def i63:TI:=⟨8,96,[.int .i64 0,.int .i64 0,.int .i64 0,.int .i64 0,.int .i64 0,.int .i64 0,.slice none 0 0,.slice none 0 0],.str [(0,3),(1,3),(2,3),(3,3),(4,3),(5,3),(6,29),(7,28)],none⟩
theorem o63:dw prog 63 i63:=⟨by kernel_rfl,by kernel_rfl,rfl,by kernel_rfl,(fun h=>(by cases h)),by kernel_rfl,(fun ks h=>(by cases h))⟩
def i75:TI:=⟨1,24,[.slice none 0 0],.slt 81,none⟩
theorem o75:dw prog 75 i75:=⟨by kernel_rfl,by kernel_rfl,rfl,by kernel_rfl,(fun _=>rfl),by kernel_rfl,(fun ks h=>(by cases h))⟩
def i77:TI:=⟨1,8,[.pointer none],.Gc 89,none⟩
theorem o77:dw prog 77 i77:=⟨by kernel_rfl,by kernel_rfl,rfl,by kernel_rfl,(fun _=>rfl),by kernel_rfl,(fun ks h=>(by cases h))⟩
def i81:TI:=⟨7,88,[.int .i64 0,.int .i64 0,.int .i64 0,.int .i64 0,.int .i64 0,.slice none 0 0,.slice none 0 0],.str [(0,3),(1,3),(2,3),(3,3),(4,3),(5,29),(6,28)],none⟩
theorem o81:dw prog 81 i81:=⟨by kernel_rfl,by kernel_rfl,rfl,by kernel_rfl,(fun h=>(by cases h)),by kernel_rfl,(fun ks h=>(by cases h))⟩
def i84:TI:=⟨18,256,[.int .u64 0,.int .i64 0,.int .i64 0,.slice none 0 0,.int .i64 0,.int .u64 0,.int .u64 0,.int .i64 0,.slice none 0 0,.int .u64 0,.int .u64 0,.slice none 0 0,.slice none 0 0,.slice none 0 0,.slice none 0 0,.slice none 0 0,.int .u64 0,.int .u64 0],.str [(0,25),(6,22),(7,3),(8,28),(9,22),(10,22),(11,28),(12,28),(13,29),(14,23),(15,28),(16,22),(17,22)],none⟩
theorem o84:dw prog 84 i84:=⟨by kernel_rfl,by kernel_rfl,rfl,by kernel_rfl,(fun h=>(by cases h)),by kernel_rfl,(fun ks h=>(by cases h))⟩
def i85:TI:=⟨1,24,[.slice none 0 0],.slt 95,none⟩
theorem o85:dw prog 85 i85:=⟨by kernel_rfl,by kernel_rfl,rfl,by kernel_rfl,(fun _=>rfl),by kernel_rfl,(fun ks h=>(by cases h))⟩
def i86:TI:=⟨1,24,[.slice none 0 0],.slt 202,none⟩
theorem o86:dw prog 86 i86:=⟨by kernel_rfl,by kernel_rfl,rfl,by kernel_rfl,(fun _=>rfl),by kernel_rfl,(fun ks h=>(by cases h))⟩
def i87:TI:=⟨1,24,[.slice none 0 0],.slt 221,none⟩
theorem o87:dw prog 87 i87:=⟨by kernel_rfl,by kernel_rfl,rfl,by kernel_rfl,(fun _=>rfl),by kernel_rfl,(fun ks h=>(by cases h))⟩
def i89:TI:=⟨49,680,[.int .u64 0,.int .i64 0,.int .i64 0,.slice none 0 0,.int .i64 0,.int .u64 0,.int .u64 0,.int .i64 0,.int .i64 0,.slice none 0 0,.int .i64 0,.int .u64 0,.int .u64 0,.int .u64 0,.int .u64 0,.slice none 0 0,.slice none 0 0,.int .u64 0,.slice none 0 0,.int .i64 0,.int .u64 0,.int .i64 0,.int .i64 0,.slice none 0 0,.int .i64 0,.int .u64 0,.int .u64 0,.int .i64 0,.slice none 0 0,.int .u64 0,.int .u64 0,.slice none 0 0,.slice none 0 0,.slice none 0 0,.slice none 0 0,.slice none 0 0,.int .u64 0,.int .u64 0,.int .u64 0,.int .u64 0,.int .u64 0,.slice none 0 0,.bool false,.int .u64 0,.slice none 0 0,.slice none 0 0,.slice none 0 0,.slice none 0 0,.slice none 0 0],.str [(0,25),(6,50),(20,84),(38,22),(39,22),(40,48),(42,4),(43,22),(44,85),(45,86),(46,86),(47,87),(48,59)],none⟩
theorem o89:dw prog 89 i89:=⟨by kernel_rfl,by kernel_rfl,rfl,by kernel_rfl,(fun h=>(by cases h)),by kernel_rfl,(fun ks h=>(by cases h))⟩
def i91:TI:=⟨1,24,[.slice none 0 0],.slt 22,none⟩
theorem o91:dw prog 91 i91:=⟨by kernel_rfl,by kernel_rfl,rfl,by kernel_rfl,(fun _=>rfl),by kernel_rfl,(fun ks h=>(by cases h))⟩
def i93:TI:=⟨10,112,[.int .i64 0,.int .u64 0,.int .i64 0,.int .u64 0,.int .u64 0,.int .u64 0,.int .u64 0,.int .i64 0,.slice none 0 0,.slice none 0 0],.str [(0,27),(2,3),(3,22),(4,22),(5,22),(6,22),(7,3),(8,29),(9,91)],none⟩
theorem o93:dw prog 93 i93:=⟨by kernel_rfl,by kernel_rfl,rfl,by kernel_rfl,(fun h=>(by cases h)),by kernel_rfl,(fun ks h=>(by cases h))⟩
def i95:TI:=⟨21,216,[.bool false,.int .u64 0,.int .i64 0,.int .u64 0,.int .i64 0,.int .u64 0,.int .u64 0,.int .u64 0,.int .u64 0,.int .i64 0,.slice none 0 0,.slice none 0 0,.int .i64 0,.int .u64 0,.int .i64 0,.int .i64 0,.int .u64 0,.int .u64 0,.int .u64 0,.int .u64 0,.slice none 0 0],.str [(0,4),(1,22),(2,93),(12,33)],none⟩
theorem o95:dw prog 95 i95:=⟨by kernel_rfl,by kernel_rfl,rfl,by kernel_rfl,(fun h=>(by cases h)),by kernel_rfl,(fun ks h=>(by cases h))⟩
def ahC:TI:=⟨1,24,[.slice none 0 0],.slt 25,none⟩
theorem aj0:dw prog 104 ahC:=⟨by kernel_rfl,by kernel_rfl,rfl,by kernel_rfl,(fun _=>rfl),by kernel_rfl,(fun ks h=>(by cases h))⟩
def i105:TI:=⟨1,24,[.slice none 0 0],.slt 274,none⟩
theorem aj1:dw prog 105 i105:=⟨by kernel_rfl,by kernel_rfl,rfl,by kernel_rfl,(fun _=>rfl),by kernel_rfl,(fun ks h=>(by cases h))⟩
def ahD:TI:=⟨1,24,[.slice none 0 0],.slt 278,none⟩
theorem aj2:dw prog 106 ahD:=⟨by kernel_rfl,by kernel_rfl,rfl,by kernel_rfl,(fun _=>rfl),by kernel_rfl,(fun ks h=>(by cases h))⟩
def ahE:TI:=⟨5,88,[.int .u64 0,.int .u64 0,.slice none 0 0,.slice none 0 0,.slice none 0 0],.str [(0,22),(1,22),(2,105),(3,104),(4,106)],none⟩
theorem aj3:dw prog 108 ahE:=⟨by kernel_rfl,by kernel_rfl,rfl,by kernel_rfl,(fun h=>(by cases h)),by kernel_rfl,(fun ks h=>(by cases h))⟩
def ahF:TI:=⟨1,8,[.nilFunc],.Dt,none⟩
theorem aj4:dw prog 115 ahF:=⟨by kernel_rfl,by kernel_rfl,rfl,by kernel_rfl,(fun _=>rfl),by kernel_rfl,(fun ks h=>(by cases h))⟩
def ahG:TI:=⟨1,8,[.pointer none],.Gc 31,none⟩
theorem aj5:dw prog 121 ahG:=⟨by kernel_rfl,by kernel_rfl,rfl,by kernel_rfl,(fun _=>rfl),by kernel_rfl,(fun ks h=>(by cases h))⟩
def i130:TI:=⟨15,200,[.int .u64 0,.int .i64 0,.int .i64 0,.slice none 0 0,.int .i64 0,.int .u64 0,.int .u64 0,.int .u64 0,.int .u64 0,.slice none 0 0,.slice none 0 0,.int .u64 0,.slice none 0 0,.int .i64 0,.slice none 0 0],.str [(0,50),(14,38)],none⟩
theorem aj6:dw prog 130 i130:=⟨by kernel_rfl,by kernel_rfl,rfl,by kernel_rfl,(fun h=>(by cases h)),by kernel_rfl,(fun ks h=>(by cases h))⟩
def i131:TI:=⟨1,8,[.pointer none],.Gc 130,none⟩
theorem aj7:dw prog 131 i131:=⟨by kernel_rfl,by kernel_rfl,rfl,by kernel_rfl,(fun _=>rfl),by kernel_rfl,(fun ks h=>(by cases h))⟩
def ahH:TI:=⟨20,208,[.bool false,.int .i64 0,.int .u64 0,.int .i64 0,.int .u64 0,.int .u64 0,.int .u64 0,.int .u64 0,.int .i64 0,.slice none 0 0,.slice none 0 0,.int .i64 0,.int .u64 0,.int .i64 0,.int .i64 0,.int .u64 0,.int .u64 0,.int .u64 0,.int .u64 0,.slice none 0 0],.str [(0,4),(1,93),(11,33)],none⟩
theorem aj8:dw prog 136 ahH:=⟨by kernel_rfl,by kernel_rfl,rfl,by kernel_rfl,(fun h=>(by cases h)),by kernel_rfl,(fun ks h=>(by cases h))⟩
def ahI:TI:=⟨4,40,[.int .i64 0,.int .u64 0,.int .u64 0,.string ByteArray.empty],.str [(0,27),(2,22),(3,9)],some [.int .i64,.int .u64,.int .u64,.str]⟩
theorem aj9:dw prog 140 ahI:=⟨by kernel_rfl,by kernel_rfl,rfl,by kernel_rfl,(fun h=>(by cases h)),by kernel_rfl,(fun ks h=>(by cases h;exact⟨iy (by kernel_rfl) (by kernel_rfl),(by kernel_rfl)⟩))⟩
def ahJ:TI:=⟨1,8,[.nilFunc],.Dt,none⟩
theorem akb:dw prog 142 ahJ:=⟨by kernel_rfl,by kernel_rfl,rfl,by kernel_rfl,(fun _=>rfl),by kernel_rfl,(fun ks h=>(by cases h))⟩
def i143:TI:=⟨1,8,[.pointer none],.Gc 145,none⟩
theorem akc:dw prog 143 i143:=⟨by kernel_rfl,by kernel_rfl,rfl,by kernel_rfl,(fun _=>rfl),by kernel_rfl,(fun ks h=>(by cases h))⟩
def i145:TI:=⟨5,72,[.int .u64 0,.slice none 0 0,.slice none 0 0,.int .u64 0,.int .u64 0],.str [(0,22),(1,29),(2,28),(3,22),(4,22)],none⟩
theorem akd:dw prog 145 i145:=⟨by kernel_rfl,by kernel_rfl,rfl,by kernel_rfl,(fun h=>(by cases h)),by kernel_rfl,(fun ks h=>(by cases h))⟩
def ahK:TI:=⟨1,8,[.nilFunc],.Dt,none⟩
theorem ake:dw prog 153 ahK:=⟨by kernel_rfl,by kernel_rfl,rfl,by kernel_rfl,(fun _=>rfl),by kernel_rfl,(fun ks h=>(by cases h))⟩
def ahL:TI:=⟨1,8,[.nilFunc],.Dt,none⟩
theorem akf:dw prog 166 ahL:=⟨by kernel_rfl,by kernel_rfl,rfl,by kernel_rfl,(fun _=>rfl),by kernel_rfl,(fun ks h=>(by cases h))⟩
def ahM:TI:=⟨1,8,[.nilFunc],.Dt,none⟩
theorem akg:dw prog 177 ahM:=⟨by kernel_rfl,by kernel_rfl,rfl,by kernel_rfl,(fun _=>rfl),by kernel_rfl,(fun ks h=>(by cases h))⟩
def i182:TI:=⟨1,8,[.nilFunc],.Dt,none⟩
theorem akh:dw prog 182 i182:=⟨by kernel_rfl,by kernel_rfl,rfl,by kernel_rfl,(fun _=>rfl),by kernel_rfl,(fun ks h=>(by cases h))⟩
def ahN:TI:=⟨1,24,[.slice none 0 0],.slt 145,none⟩
theorem aki:dw prog 187 ahN:=⟨by kernel_rfl,by kernel_rfl,rfl,by kernel_rfl,(fun _=>rfl),by kernel_rfl,(fun ks h=>(by cases h))⟩
def ahO:TI:=⟨1,8,[.pointer none],.Gc 195,none⟩
theorem akj:dw prog 191 ahO:=⟨by kernel_rfl,by kernel_rfl,rfl,by kernel_rfl,(fun _=>rfl),by kernel_rfl,(fun ks h=>(by cases h))⟩
def ahP:TI:=⟨19,280,[.int .u64 0,.int .i64 0,.int .i64 0,.slice none 0 0,.int .i64 0,.int .u64 0,.int .u64 0,.int .i64 0,.slice none 0 0,.int .u64 0,.int .u64 0,.slice none 0 0,.slice none 0 0,.slice none 0 0,.slice none 0 0,.slice none 0 0,.int .u64 0,.int .u64 0,.slice none 0 0],.str [(0,84),(18,38)],none⟩
theorem akk:dw prog 195 ahP:=⟨by kernel_rfl,by kernel_rfl,rfl,by kernel_rfl,(fun h=>(by cases h)),by kernel_rfl,(fun ks h=>(by cases h))⟩
def ahQ:TI:=⟨4,40,[.int .i64 0,.int .u64 0,.int .u64 0,.string ByteArray.empty],.str [(0,27),(2,22),(3,9)],some [.int .i64,.int .u64,.int .u64,.str]⟩
theorem akl:dw prog 202 ahQ:=⟨by kernel_rfl,by kernel_rfl,rfl,by kernel_rfl,(fun h=>(by cases h)),by kernel_rfl,(fun ks h=>(by cases h;exact⟨iy (by kernel_rfl) (by kernel_rfl),(by kernel_rfl)⟩))⟩
def ahR:TI:=⟨1,8,[.nilFunc],.Dt,none⟩
theorem akm:dw prog 207 ahR:=⟨by kernel_rfl,by kernel_rfl,rfl,by kernel_rfl,(fun _=>rfl),by kernel_rfl,(fun ks h=>(by cases h))⟩
def i210:TI:=⟨1,8,[.nilFunc],.Dt,none⟩
theorem akn:dw prog 210 i210:=⟨by kernel_rfl,by kernel_rfl,rfl,by kernel_rfl,(fun _=>rfl),by kernel_rfl,(fun ks h=>(by cases h))⟩
def ahS:TI:=⟨4,32,[.int .i64 0,.int .u64 0,.int .u64 0,.int .u64 0],.str [(0,27),(2,22),(3,22)],some [.int .i64,.int .u64,.int .u64,.int .u64]⟩
theorem ako:dw prog 221 ahS:=⟨by kernel_rfl,by kernel_rfl,rfl,by kernel_rfl,(fun h=>(by cases h)),by kernel_rfl,(fun ks h=>(by cases h;exact⟨iy (by kernel_rfl) (by kernel_rfl),(by kernel_rfl)⟩))⟩
def i226:TI:=⟨1,8,[.nilFunc],.Dt,none⟩
theorem akp:dw prog 226 i226:=⟨by kernel_rfl,by kernel_rfl,rfl,by kernel_rfl,(fun _=>rfl),by kernel_rfl,(fun ks h=>(by cases h))⟩
def i228:TI:=⟨1,8,[.nilFunc],.Dt,none⟩
theorem akq:dw prog 228 i228:=⟨by kernel_rfl,by kernel_rfl,rfl,by kernel_rfl,(fun _=>rfl),by kernel_rfl,(fun ks h=>(by cases h))⟩
def i234:TI:=⟨1,8,[.int .u64 0],.xC .u64,none⟩
theorem akr:dw prog 234 i234:=⟨by kernel_rfl,by kernel_rfl,rfl,by kernel_rfl,(fun _=>rfl),by kernel_rfl,(fun ks h=>(by cases h))⟩
def ahT:TI:=⟨1,8,[.int .i64 0],.xC .i64,none⟩
theorem aks:dw prog 237 ahT:=⟨by kernel_rfl,by kernel_rfl,rfl,by kernel_rfl,(fun _=>rfl),by kernel_rfl,(fun ks h=>(by cases h))⟩
def ahU:TI:=⟨1,4,[.int .u32 0],.xC .u32,none⟩
theorem akt:dw prog 245 ahU:=⟨by kernel_rfl,by kernel_rfl,rfl,by kernel_rfl,(fun _=>rfl),by kernel_rfl,(fun ks h=>(by cases h))⟩
def ahV:TI:=⟨1,8,[.int .u64 0],.xC .u64,none⟩
theorem aku:dw prog 247 ahV:=⟨by kernel_rfl,by kernel_rfl,rfl,by kernel_rfl,(fun _=>rfl),by kernel_rfl,(fun ks h=>(by cases h))⟩
def ahW:TI:=⟨1,8,[.pointer none],.Gc 3,none⟩
theorem akv:dw prog 251 ahW:=⟨by kernel_rfl,by kernel_rfl,rfl,by kernel_rfl,(fun _=>rfl),by kernel_rfl,(fun ks h=>(by cases h))⟩
def ahX:TI:=⟨1,24,[.slice none 0 0],.slt 281,none⟩
theorem akw:dw prog 271 ahX:=⟨by kernel_rfl,by kernel_rfl,rfl,by kernel_rfl,(fun _=>rfl),by kernel_rfl,(fun ks h=>(by cases h))⟩
def ahY:TI:=⟨1,24,[.slice none 0 0],.slt 283,none⟩
theorem akx:dw prog 272 ahY:=⟨by kernel_rfl,by kernel_rfl,rfl,by kernel_rfl,(fun _=>rfl),by kernel_rfl,(fun ks h=>(by cases h))⟩
def ahZ:TI:=⟨9,120,[.int .u64 0,.int .i64 0,.int .u64 0,.int .u64 0,.int .u64 0,.int .u64 0,.slice none 0 0,.slice none 0 0,.slice none 0 0],.str [(0,22),(1,3),(2,22),(3,22),(4,22),(5,22),(6,91),(7,271),(8,272)],none⟩
theorem aky:dw prog 274 ahZ:=⟨by kernel_rfl,by kernel_rfl,rfl,by kernel_rfl,(fun h=>(by cases h)),by kernel_rfl,(fun ks h=>(by cases h))⟩
def ah0:TI:=⟨5,40,[.int .i64 0,.int .u64 0,.int .u64 0,.int .u64 0,.int .i64 0],.str [(0,51),(1,22),(2,22),(3,22),(4,3)],some [.int .i64,.int .u64,.int .u64,.int .u64,.int .i64]⟩
theorem akz:dw prog 276 ah0:=⟨by kernel_rfl,by kernel_rfl,rfl,by kernel_rfl,(fun h=>(by cases h)),by kernel_rfl,(fun ks h=>(by cases h;exact⟨iy (by kernel_rfl) (by kernel_rfl),(by kernel_rfl)⟩))⟩
def ah1:TI:=⟨8,64,[.int .i64 0,.int .u64 0,.int .u64 0,.int .i64 0,.int .u64 0,.int .u64 0,.int .u64 0,.int .i64 0],.str [(0,3),(1,22),(2,22),(3,276)],some [.int .i64,.int .u64,.int .u64,.int .i64,.int .u64,.int .u64,.int .u64,.int .i64]⟩
theorem akA:dw prog 278 ah1:=⟨by kernel_rfl,by kernel_rfl,rfl,by kernel_rfl,(fun h=>(by cases h)),by kernel_rfl,(fun ks h=>(by cases h;exact⟨iy (by kernel_rfl) (by kernel_rfl),(by kernel_rfl)⟩))⟩
def ah2:TI:=⟨3,24,[.int .i64 0,.int .u64 0,.int .u64 0],.str [(0,3),(1,22),(2,22)],some [.int .i64,.int .u64,.int .u64]⟩
theorem akB:dw prog 281 ah2:=⟨by kernel_rfl,by kernel_rfl,rfl,by kernel_rfl,(fun h=>(by cases h)),by kernel_rfl,(fun ks h=>(by cases h;exact⟨iy (by kernel_rfl) (by kernel_rfl),(by kernel_rfl)⟩))⟩
def ah3:TI:=⟨2,16,[.int .i64 0,.int .u64 0],.str [(0,3),(1,22)],some [.int .i64,.int .u64]⟩
theorem akC:dw prog 283 ah3:=⟨by kernel_rfl,by kernel_rfl,rfl,by kernel_rfl,(fun h=>(by cases h)),by kernel_rfl,(fun ks h=>(by cases h;exact⟨iy (by kernel_rfl) (by kernel_rfl),(by kernel_rfl)⟩))⟩
def tab:Tab:=[(3,i3),(4,i4),(5,i5),(9,i9),(22,i22),(23,i23),(25,i25),(27,i27),(28,i28),(29,i29),(31,i31),(33,i33),(38,i38),(44,i44),(46,i46),(48,i48),(50,i50),(51,i51),(55,i55),(57,i57),(58,i58),(59,i59),(61,i61),(63,i63),(75,i75),(77,i77),(81,i81),(84,i84),(85,i85),(86,i86),(87,i87),(89,i89),(91,i91),(93,i93),(95,i95),(104,ahC),(105,i105),(106,ahD),(108,ahE),(115,ahF),(121,ahG),(130,i130),(131,i131),(136,ahH),(140,ahI),(142,ahJ),(143,i143),(145,i145),(153,ahK),(166,ahL),(177,ahM),(182,i182),(187,ahN),(191,ahO),(195,ahP),(202,ahQ),(207,ahR),(210,i210),(221,ahS),(226,i226),(228,i228),(234,i234),(237,ahT),(245,ahU),(247,ahV),(251,ahW),(271,ahX),(272,ahY),(274,ahZ),(276,ah0),(278,ah1),(281,ah2),(283,ah3)]
theorem bU:bY prog tab:=Gn (by
 intro x hx;simp only[tab,List.mem_cons,List.mem_nil_iff,or_false] at hx;rcases hx with rfl|rfl|rfl|rfl|rfl|rfl|rfl|rfl|rfl|rfl|rfl|rfl|rfl|rfl|rfl|rfl|rfl|rfl|rfl|rfl|rfl|rfl|rfl|rfl|rfl|rfl|rfl|rfl|rfl|rfl|rfl|rfl|rfl|rfl|rfl|rfl|rfl|rfl|rfl|rfl|rfl|rfl|rfl|rfl|rfl|rfl|rfl|rfl|rfl|rfl|rfl|rfl|rfl|rfl|rfl|rfl|rfl|rfl|rfl|rfl|rfl|rfl|rfl|rfl|rfl|rfl|rfl|rfl|rfl|rfl|rfl|rfl|rfl
 ·exact o3
 ·exact o4
 ·exact o5
 ·exact o9
 ·exact o22
 ·exact o23
 ·exact o25
 ·exact o27
 ·exact o28
 ·exact o29
 ·exact o31
 ·exact o33
 ·exact o38
 ·exact o44
 ·exact o46
 ·exact o48
 ·exact o50
 ·exact o51
 ·exact o55
 ·exact o57
 ·exact o58
 ·exact o59
 ·exact o61
 ·exact o63
 ·exact o75
 ·exact o77
 ·exact o81
 ·exact o84
 ·exact o85
 ·exact o86
 ·exact o87
 ·exact o89
 ·exact o91
 ·exact o93
 ·exact o95
 ·exact aj0
 ·exact aj1
 ·exact aj2
 ·exact aj3
 ·exact aj4
 ·exact aj5
 ·exact aj6
 ·exact aj7
 ·exact aj8
 ·exact aj9
 ·exact akb
 ·exact akc
 ·exact akd
 ·exact ake
 ·exact akf
 ·exact akg
 ·exact akh
 ·exact aki
 ·exact akj
 ·exact akk
 ·exact akl
 ·exact akm
 ·exact akn
 ·exact ako
 ·exact akp
 ·exact akq
 ·exact akr
 ·exact aks
 ·exact akt
 ·exact aku
 ·exact akv
 ·exact akw
 ·exact akx
 ·exact aky
 ·exact akz
 ·exact akA
 ·exact akB
 exact akC)
theorem mixed:prog.follows .mixedOrders=true:=by kernel_rfl
theorem dP {f:FuncId}{fn:Func}(hf:bR prog f fn){args:List PV}{Q:PV→Prop}(h:ad7 args fun s=>VC prog tab (codeOf fn) s (fnK tab fn.results.toList Q))(hl:Nat.ble args.length fn.ntmps=true:=by rfl):PC prog f args Q:=WJ bU (cZ mixed bU) hf hl h
theorem eO {f:FuncId}{fn:Func}(hf:bR prog f fn){args:List AV}{hp:List (Nat×aF)}{Q:AV→List (Nat×aF)→Prop}(h:WN args hp fun s=>VC prog tab (codeOf fn) s (fnG tab fn.results.toList Q))(hl:Nat.ble args.length fn.ntmps=true:=by rfl):GC prog f args hp Q:=y9 bU (cZ mixed bU) hf hl h
theorem xq:bR prog 107 f107:=fC func107
theorem tL (l:List Pl)(a b:Int):dB prog 107 [ax l,.agg [ii a,uu b]] (ii (uE (fun y=>y==⟨a,b⟩) l)):=by
 refine PC.le (qg xq fun hb=>?_);have hb:l.length≤9223372036854775807:=by simpa[JF,DL,ax] using hb
 refine dP xq ?_;repeat' ((conv=>whnf);first|with_reducible apply aP|((with_reducible refine (⟨fun h=>?_,fun h=>?_⟩:(_=true→_)∧(_=false→_)))<;>first|exact absurd h (by decide)|(exfalso;simp only[*,reduceCtorEq] at h;done)|skip)|refine aN ?_|fail)
 refine⟨{k:Nat // k≤l.length∧∀j (hj:j<l.length),j<k→(l[j]==⟨a,b⟩)=false},fun⟨k,_⟩=>⟨[(0,.pv (ax l)),(3,.ptr 1003 0),(7,.pv (ii l.length)),(8,.pv (ii k))],1000000000,[(1003,.var [.pv (ii a),.pv (uu b)])]⟩,fun⟨k,_⟩=>l.length-k,⟨⟨0,by simp⟩,aH ?_⟩,?_⟩
 ·repeat' first|apply And.intro|exact aM|fail
  all_goals try (conv=>whnf)
  simp
 rintro⟨k,hk,hn⟩
 repeat' ((conv=>whnf);first|with_reducible apply aP|((with_reducible refine (⟨fun h=>?_,fun h=>?_⟩:(_=true→_)∧(_=false→_)))<;>first|exact absurd h (by decide)|(exfalso;simp only[*,reduceCtorEq] at h;done)|skip)|refine aN ?_|fail)
 ·rename_i h;have hlt:k<l.length:=by simpa using h
  refine⟨_,dR _ _ _ hlt,?_⟩;repeat' ((conv=>whnf);first|with_reducible apply aP|((with_reducible refine (⟨fun h=>?_,fun h=>?_⟩:(_=true→_)∧(_=false→_)))<;>first|exact absurd h (by decide)|(exfalso;simp only[*,reduceCtorEq] at h;done)|skip)|refine aN ?_|fail)
  ·rename_i h2 h;repeat' first|apply And.intro|exact aM|fail
   all_goals try (conv=>whnf)
   exact (Bc _ hlt hn (by rw[←Pl.agI];exact h)).symm
  rename_i h2 h;repeat' ((conv=>whnf);first|with_reducible apply aP|((with_reducible refine (⟨fun h=>?_,fun h=>?_⟩:(_=true→_)∧(_=false→_)))<;>first|exact absurd h (by decide)|(exfalso;simp only[*,reduceCtorEq] at h;done)|skip)|refine aN ?_|fail)
  refine⟨⟨k+1,hlt,lX hn fun _=>(by rw[←Pl.agI];exact h)⟩,dec_lt hlt,aH ?_⟩;repeat' first|apply And.intro|exact aM|fail
  all_goals try (conv=>whnf)
  exact bN (by omega) (by omega)
 rename_i h;repeat' first|apply And.intro|exact aM|fail
 all_goals try (conv=>whnf)
 have:k=l.length:=by simp at h;omega
 subst this;exact (o7 _ (xU hn)).symm
theorem BF:bR prog 52 f52:=fC func52
theorem aA (l:List Pl)(a b:Int):dB prog 52 [ax l,.agg [ii a,uu b]] (bl (l.any (fun y=>y==⟨a,b⟩))):=by
 refine PC.le ?_;refine dP BF ?_;repeat' ((conv=>whnf);first|with_reducible apply aP|((with_reducible refine (⟨fun h=>?_,fun h=>?_⟩:(_=true→_)∧(_=false→_)))<;>first|exact absurd h (by decide)|(exfalso;simp only[*,reduceCtorEq] at h;done)|skip)|(apply bA;refine⟨_,tL _ _ _,?_⟩)|refine aN ?_|fail)
 repeat' first|apply And.intro|exact aM|fail
 all_goals try (conv=>whnf)
 exact Pf _ _
theorem qp:bR prog 98 f98:=fC func98
theorem mR (l:List Pl)(f:FuncId)(first bF:List PV)(p:Pl→Bool)(hp:∀x∈l,dB prog f (first++([.agg x.c]++bF)) (bl (p x))) :
  dB prog 98 [ax l,.fn (.func f) first bF] (ii (uE p l)):=by
 refine PC.le (qg qp fun hb=>?_);have hb:l.length≤9223372036854775807:=by simpa[JF,DL,ax] using hb
 refine dP qp ?_;repeat' ((conv=>whnf);first|with_reducible apply aP|((with_reducible refine (⟨fun h=>?_,fun h=>?_⟩:(_=true→_)∧(_=false→_)))<;>first|exact absurd h (by decide)|(exfalso;simp only[*,reduceCtorEq] at h;done)|skip)|refine aN ?_|fail)
 refine⟨{k:Nat // k≤l.length∧∀j (hj:j<l.length),j<k→p l[j]=false},fun⟨k,_⟩=>⟨[(0,.pv (ax l)),(1,.pv (.fn (.func f) first bF)),(7,.pv (ii l.length)),(8,.pv (ii k))],1000000000,[]⟩,fun⟨k,_⟩=>l.length-k,⟨⟨0,by simp⟩,aH ?_⟩,?_⟩
 ·repeat' first|apply And.intro|exact aM|fail
  all_goals try (conv=>whnf)
  simp
 rintro⟨k,hk,hn⟩
 repeat' ((conv=>whnf);first|with_reducible apply aP|((with_reducible refine (⟨fun h=>?_,fun h=>?_⟩:(_=true→_)∧(_=false→_)))<;>first|exact absurd h (by decide)|(exfalso;simp only[*,reduceCtorEq] at h;done)|skip)|refine aN ?_|fail)
 ·rename_i h;have hlt:k<l.length:=by simpa using h
  refine⟨_,dR _ _ _ hlt,?_⟩;repeat' ((conv=>whnf);first|with_reducible apply aP|((with_reducible refine (⟨fun h=>?_,fun h=>?_⟩:(_=true→_)∧(_=false→_)))<;>first|exact absurd h (by decide)|(exfalso;simp only[*,reduceCtorEq] at h;done)|skip)|(apply bA;refine⟨_,hp _ (List.getElem_mem hlt),?_⟩)|refine aN ?_|fail)
  ·rename_i h2 h;repeat' first|apply And.intro|exact aM|fail
   all_goals try (conv=>whnf)
   exact (Bc _ hlt hn h).symm
  rename_i h2 h;repeat' ((conv=>whnf);first|with_reducible apply aP|((with_reducible refine (⟨fun h=>?_,fun h=>?_⟩:(_=true→_)∧(_=false→_)))<;>first|exact absurd h (by decide)|(exfalso;simp only[*,reduceCtorEq] at h;done)|skip)|refine aN ?_|fail)
  refine⟨⟨k+1,hlt,lX hn fun _=>h⟩,dec_lt hlt,aH ?_⟩;repeat' first|apply And.intro|exact aM|fail
  all_goals try (conv=>whnf)
  exact bN (by omega) (by omega)
 rename_i h;repeat' first|apply And.intro|exact aM|fail
 all_goals try (conv=>whnf)
 have:k=l.length:=by simp at h;omega
 subst this;exact (o7 _ (xU hn)).symm
theorem vJ:bR prog 102 f102:=fC func102
theorem nQ (l:List Pl)(f:FuncId)(first bF:List PV)(p:Pl→Bool)(hp:∀x∈l,dB prog f (first++([.agg x.c]++bF)) (bl (p x))) :
  dB prog 102 [ax l,.fn (.func f) first bF] (bl (l.any p)):=by
 refine PC.le ?_;refine dP vJ ?_;repeat' ((conv=>whnf);first|with_reducible apply aP|((with_reducible refine (⟨fun h=>?_,fun h=>?_⟩:(_=true→_)∧(_=false→_)))<;>first|exact absurd h (by decide)|(exfalso;simp only[*,reduceCtorEq] at h;done)|skip)|(apply bA;refine⟨_,mR _ _ _ _ _ hp,?_⟩)|refine aN ?_|fail)
 repeat' first|apply And.intro|exact aM|fail
 all_goals try (conv=>whnf)
 exact Pf _ _
theorem rU:bR prog 177 f177:=fC func177
theorem Dx (l:List Fr)(f:FuncId)(first bF:List PV)(p:Fr→Bool)(hp:∀x∈l,dB prog f (first++([.agg x.c]++bF)) (bl (p x))) :
  dB prog 177 [cB l,.fn (.func f) first bF] (ii (uE p l)):=by
 refine PC.le (qg rU fun hb=>?_);have hb:l.length≤9223372036854775807:=by simpa[JF,DL,cB] using hb
 refine dP rU ?_;repeat' ((conv=>whnf);first|with_reducible apply aP|((with_reducible refine (⟨fun h=>?_,fun h=>?_⟩:(_=true→_)∧(_=false→_)))<;>first|exact absurd h (by decide)|(exfalso;simp only[*,reduceCtorEq] at h;done)|skip)|refine aN ?_|fail)
 refine⟨{k:Nat // k≤l.length∧∀j (hj:j<l.length),j<k→p l[j]=false},fun⟨k,_⟩=>⟨[(0,.pv (cB l)),(1,.pv (.fn (.func f) first bF)),(7,.pv (ii l.length)),(8,.pv (ii k))],1000000000,[]⟩,fun⟨k,_⟩=>l.length-k,⟨⟨0,by simp⟩,aH ?_⟩,?_⟩
 ·repeat' first|apply And.intro|exact aM|fail
  all_goals try (conv=>whnf)
  simp
 rintro⟨k,hk,hn⟩
 repeat' ((conv=>whnf);first|with_reducible apply aP|((with_reducible refine (⟨fun h=>?_,fun h=>?_⟩:(_=true→_)∧(_=false→_)))<;>first|exact absurd h (by decide)|(exfalso;simp only[*,reduceCtorEq] at h;done)|skip)|refine aN ?_|fail)
 ·rename_i h;have hlt:k<l.length:=by simpa using h
  refine⟨_,dR _ _ _ hlt,?_⟩;repeat' ((conv=>whnf);first|with_reducible apply aP|((with_reducible refine (⟨fun h=>?_,fun h=>?_⟩:(_=true→_)∧(_=false→_)))<;>first|exact absurd h (by decide)|(exfalso;simp only[*,reduceCtorEq] at h;done)|skip)|(apply bA;refine⟨_,hp _ (List.getElem_mem hlt),?_⟩)|refine aN ?_|fail)
  ·rename_i h2 h;repeat' first|apply And.intro|exact aM|fail
   all_goals try (conv=>whnf)
   exact (Bc _ hlt hn h).symm
  rename_i h2 h;repeat' ((conv=>whnf);first|with_reducible apply aP|((with_reducible refine (⟨fun h=>?_,fun h=>?_⟩:(_=true→_)∧(_=false→_)))<;>first|exact absurd h (by decide)|(exfalso;simp only[*,reduceCtorEq] at h;done)|skip)|refine aN ?_|fail)
  refine⟨⟨k+1,hlt,lX hn fun _=>h⟩,dec_lt hlt,aH ?_⟩;repeat' first|apply And.intro|exact aM|fail
  all_goals try (conv=>whnf)
  exact bN (by omega) (by omega)
 rename_i h;repeat' first|apply And.intro|exact aM|fail
 all_goals try (conv=>whnf)
 have:k=l.length:=by simp at h;omega
 subst this;exact (o7 _ (xU hn)).symm
theorem wU:bR prog 153 f153:=fC func153
theorem pO (l:List Fr)(f:FuncId)(first bF:List PV)(p:Fr→Bool)(hp:∀x∈l,dB prog f (first++([.agg x.c]++bF)) (bl (p x))) :
  dB prog 153 [cB l,.fn (.func f) first bF] (bl (l.any p)):=by
 refine PC.le ?_;refine dP wU ?_;repeat' ((conv=>whnf);first|with_reducible apply aP|((with_reducible refine (⟨fun h=>?_,fun h=>?_⟩:(_=true→_)∧(_=false→_)))<;>first|exact absurd h (by decide)|(exfalso;simp only[*,reduceCtorEq] at h;done)|skip)|(apply bA;refine⟨_,Dx _ _ _ _ _ hp,?_⟩)|refine aN ?_|fail)
 repeat' first|apply And.intro|exact aM|fail
 all_goals try (conv=>whnf)
 exact Pf _ _
theorem xu:bR prog 105 f105:=fC func105
theorem fJ (l:List Pl)(h:l.length*16≤140737488355328):dU prog 105 [.pv (ax l)] [] (.aO 1001 0) [(1001,.arr 27 0 2 (l.map Pl.c))]:=by
 refine agu [] ?_ fun h0=>?_
 all_goals
  refine eO xu ?_;repeat' ((conv=>whnf);first|with_reducible apply aP|((with_reducible refine (⟨fun h=>?_,fun h=>?_⟩:(_=true→_)∧(_=false→_)))<;>first|exact absurd h (by decide)|(exfalso;simp only[*,reduceCtorEq] at h;done)|skip)|refine aN ?_|fail)
  refine⟨_,_,⟨rfl,rfl⟩,?_⟩;repeat' first|apply And.intro|exact aM|fail
  all_goals try (conv=>whnf)
 exact h0
theorem l8 (l:List Pl)(h:l.length*16≤140737488355328):dB prog 105 [ax l] (ax l):=by
 refine PC.le (adq [] ?_ fun h0=>?_);all_goals
  refine dP xu ?_;repeat' ((conv=>whnf);first|with_reducible apply aP|((with_reducible refine (⟨fun h=>?_,fun h=>?_⟩:(_=true→_)∧(_=false→_)))<;>first|exact absurd h (by decide)|(exfalso;simp only[*,reduceCtorEq] at h;done)|skip)|refine aN ?_|fail)
  repeat' first|apply And.intro|exact aM|fail
  all_goals try (conv=>whnf)
 exact h0
theorem Ka:bR prog 54 f54:=fC func54
theorem fA (l:List UInt8)(h:l.length*1≤140737488355328):dB prog 54 [Cn l] (Cn l):=by
 refine PC.le (adq [] ?_ fun h0=>?_);all_goals
  refine dP Ka ?_;repeat' ((conv=>whnf);first|with_reducible apply aP|((with_reducible refine (⟨fun h=>?_,fun h=>?_⟩:(_=true→_)∧(_=false→_)))<;>first|exact absurd h (by decide)|(exfalso;simp only[*,reduceCtorEq] at h;done)|skip)|refine aN ?_|fail)
  repeat' first|apply And.intro|exact aM|fail
  all_goals try (conv=>whnf)
 exact h0
theorem UR:bR prog 176 f176:=fC func176
theorem M5 (n:Int)(x:Fr):dB prog 176 ([]++([.agg x.c]++[.dL [uu n] 0])) (bl (decide (x.first≤n))):=by
 refine PC.le ?_;refine dP UR ?_;repeat' ((conv=>whnf);first|with_reducible apply aP|((with_reducible apply fk)<;>intro hc<;>try exact aZ)|refine aN ?_|fail)
 all_goals exact aM
theorem Ki:bR prog 175 f175:=fC func175
theorem afb (l:List Fr)(f:FuncId)(first bF:List PV)(p:Fr→Bool)(hp:∀x∈l,dB prog f (first++([.agg x.c]++bF)) (bl (p x))) :
  dB prog 175 [cB l,.fn (.func f) first bF] (.cO [.agg ((iK p l).getD kQ).c,bl (iK p l).isSome]):=by
 refine PC.le (qg Ki fun hb=>?_);have hb:l.length≤9223372036854775807:=by simpa[JF,DL,cB] using hb
 refine dP Ki ?_;repeat' ((conv=>whnf);first|with_reducible apply aP|((with_reducible apply fk)<;>intro hc<;>try exact aZ)|refine aN ?_|fail)
 refine⟨{k:Nat // k≤l.length},fun⟨k,_⟩=>⟨[(1,.pv (.fn (.func f) first bF)),(4,.ptr 1004 0),(5,.pv (bl (iK p (l.take k)).isSome)),(8,.pv (cB l)),(9,.pv (ii l.length)),(10,.pv (ii k))],1000000000,[(1004,.var [.pv (uu ((iK p (l.take k)).getD kQ).first),.pv (ax ((iK p (l.take k)).getD kQ).ah)])]⟩,fun⟨k,_⟩=>l.length-k,⟨⟨0,by simp⟩,aH ?_⟩,?_⟩
 ·repeat' first|apply And.intro|exact aM|fail
  all_goals try (conv=>whnf)
  all_goals simp
 rintro⟨k,hk⟩
 repeat' ((conv=>whnf);first|with_reducible apply aP|((with_reducible apply fk)<;>intro hc<;>try exact aZ)|refine aN ?_|fail)
 ·have hlt:k<l.length:=by simpa using hc
  refine⟨_,dR _ _ _ hlt,?_⟩;have hs:iK p (l.take (k+1))=if p l[k] then some l[k] else iK p (l.take k):=EU _ _ _ _ hlt
  repeat' ((conv=>whnf);first|with_reducible apply aP|((with_reducible apply fk)<;>intro hc<;>try exact aZ)|(apply bA;refine⟨_,hp _ (List.getElem_mem hlt),?_⟩)|refine aN ?_|fail)
  ·refine⟨⟨k+1,hlt⟩,dec_lt hlt,aH ?_⟩;repeat' first|apply And.intro|exact aM|fail
   all_goals try (conv=>whnf)
   all_goals first|exact bN (by omega) (by omega)|(rw[hs,if_pos hc];first|rfl|exact aB _)
  refine⟨⟨k+1,hlt⟩,dec_lt hlt,aH ?_⟩;repeat' first|apply And.intro|exact aM|fail
  all_goals try (conv=>whnf)
  all_goals first|exact bN (by omega) (by omega)|(rw[hs,if_neg (by simp[hc])];first|done|exact aB _)
 have:k=l.length:=by simp at hc;omega
 subst this;rw[List.take_length];all_goals exact aM
theorem M6:bR prog 150 f150:=fC func150
theorem Sr (l:List Fr)(n:Int)(h:bg l):dB prog 150 [cB l,uu n] (.cO [.agg ((eD l n).getD kQ).c,bl (eD l n).isSome]):=by
 refine PC.le ?_;refine dP M6 ?_;repeat' ((conv=>whnf);first|with_reducible apply aP|((with_reducible apply fk)<;>intro hc<;>try exact aZ)|(apply bA;refine⟨_,afb _ _ _ _ _ fun x _=>M5 n x,?_⟩)|(apply bA;refine⟨_,l8 _ (by have:=EW h n;exact Nat.le_trans (Nat.mul_le_mul_right 16 this) (by decide)),?_⟩)|refine aN ?_|fail)
 all_goals exact aM
theorem Y3:bR prog 151 f151:=fC func151
theorem acr (l:List Pl)(k w:Nat)(h0:0<l.length)(hl:l.length≤8796093022208)(hk:k<l.length)(hw:w≤l.length):dB prog 151 [ax l,ii k,ii w] (ax (fF l k w)):=by
 refine PC.le ?_;refine dP Y3 ?_;repeat' ((conv=>whnf);first|with_reducible apply aP|((with_reducible apply fk)<;>intro hc<;>try exact aZ)|refine aN ?_|fail)
 refine⟨{i:Nat // i≤w},fun⟨i,_⟩=>⟨[(0,.pv (ax l)),(1,.pv (ii k)),(7,.aO 1007 0),(9,.pv (ii w)),(10,.pv (ii i))],1000000000,[(1007,.arr 27 0 2 ((fF l k i).map Pl.c))]⟩,fun⟨i,_⟩=>w-i,⟨⟨0,by simp⟩,aH ?_⟩,?_⟩
 ·all_goals exact aM
 rintro⟨i,hi⟩
 repeat' ((conv=>whnf);first|with_reducible apply aP|((with_reducible apply fk)<;>intro hc<;>try exact aZ)|refine aN ?_|fail)
 ·have hlt:i<w:=by simpa using hc
  have e1:(IntKind.i64.wrap ((k:Int)+(i:Int))).tmod ((l.map Pl.c).length:Int)=(((k+i)%l.length:Nat):Int):=by
   rw[bN (by omega) (by omega),List.length_map];rfl
  have hf:fF l k (i+1)=fF l k i++[l[(k+i)%l.length]!]:=by
   simp[fF,List.range_succ]
  have hlen:(fF l k i).length=i:=by simp[fF]
  have hm:(k+i)%l.length<l.length:=Nat.mod_lt _ h0;repeat' ((conv=>whnf);first|with_reducible apply aP|((with_reducible apply fk)<;>intro hc<;>try exact aZ)|(((with_reducible apply And.intro);focus (rw[e1];omega)))|((refine⟨_,O6 _ _ e1 hm,?_⟩))|(((with_reducible apply And.intro);focus (simp;omega)))|refine aN ?_|fail)
  refine⟨⟨i+1,hlt⟩,dec_lt hlt,aH ?_⟩;repeat' first|apply And.intro|exact aM|fail
  all_goals try (conv=>whnf)
  all_goals first
   |exact bN (by omega) (by omega)
   |(refine fZ ?_;rw[hf,List.map_append,getElem!_pos l _ hm];rfl)
 have:i=w:=by simp at hc;omega
 subst this;all_goals exact aM
theorem Kj (l:List Pl)(k w:Int)(h0:0<l.length)(hl:l.length≤8796093022208)(hk:0≤k∧k<l.length)(hw:0≤w∧w≤l.length):dB prog 151 [ax l,ii k,ii w] (ax (fF l k.toNat w.toNat)):=by
 have:=acr l k.toNat w.toNat h0 hl (by omega) (by omega);rwa [Int.toNat_of_nonneg hk.1,Int.toNat_of_nonneg hw.1] at this
theorem zZ:bR prog 108 f108:=fC func108
theorem iU (l:List Fr)(w n:Int)(h:bg l)(hn:0≤n∧n≤18446744073709551615):dB prog 108 [cB l,ii w,uu n] (ax (setOf l w n)):=by
 refine PC.le ?_;refine dP zZ ?_;cases hf:eD l n with
 | none=>
   have hF:dB prog 150 [cB l,uu n] (.cO [.agg kQ.c,bl false]):=by
    have:=Sr l n h;rwa [hf] at this
   repeat' ((conv=>whnf);first|with_reducible apply aP|((with_reducible apply fk)<;>intro hc<;>try exact aZ)|(apply bA;refine⟨_,hF,?_⟩)|refine aN ?_|fail)
   repeat' first|apply And.intro|exact aM|fail
   all_goals try (conv=>whnf)
   simp[setOf,hf]
 | some f=>
   obtain⟨⟨f1,f2,f3⟩,f4⟩:=wC h hf;have hF:dB prog 150 [cB l,uu n] (.cO [.agg f.c,bl true]):=by
    have:=Sr l n h;rwa [hf] at this
   have e1 (hpos:0<f.ah.length):IntKind.i64.wrap ((IntKind.u64.wrap (n-f.first)).tmod (IntKind.u64.wrap ((f.ah.map Pl.c).length:Int)))=(n-f.first)%(f.ah.length:Int):=by
    rw[gX (by omega) (by omega),List.length_map,gX (by omega) (by omega),Int.tmod_eq_emod_of_nonneg (by omega)];have h1:=Int.emod_nonneg (n-f.first) (b:=(f.ah.length:Int)) (by omega);have h2:=Int.emod_lt_of_pos (n-f.first) (b:=(f.ah.length:Int)) (by omega);exact bN (by omega) (by omega)
   repeat' ((conv=>whnf);first|with_reducible apply aP|((with_reducible apply fk)<;>intro hc<;>try exact aZ)|(apply bA;refine⟨_,hF,?_⟩)|refine aN ?_|fail)
   ·repeat' first|apply And.intro|exact aM|fail
    all_goals try (conv=>whnf)
    simp only[iO,w9,fE] at *;simp only[setOf,hf];rw[if_neg (by omega)];rfl
   ·repeat' first|apply And.intro|exact aM|fail
    all_goals try (conv=>whnf)
    simp only[iO,w9,fE] at *;simp only[setOf,hf];rw[if_neg (by omega)];rfl
   simp at hc;rename_i hc1;simp at hc1;have hpos:0<f.ah.length:=by omega
   have e1:=e1 hpos;have h1:=Int.emod_nonneg (n-f.first) (b:=(f.ah.length:Int)) (by omega);have h2:=Int.emod_lt_of_pos (n-f.first) (b:=(f.ah.length:Int)) (by omega);repeat' ((conv=>whnf);first|with_reducible apply aP|((with_reducible apply fk)<;>intro hc<;>try exact aZ)|(((with_reducible apply And.intro);focus (rw[List.length_map,gX (by omega) (by omega)];omega)))|(apply bA;refine⟨_,Kj _ _ _ hpos f3 (by rw[e1];exact⟨h1,h2⟩) ⟨by omega,hc⟩,?_⟩)|refine aN ?_|fail)
   repeat' first|apply And.intro|exact aM|fail
   all_goals try (conv=>whnf)
   refine fZ ?_;rw[e1];simp only[setOf,hf];rw[if_pos (by omega)]
theorem z8:bR prog 18 f18:=fC func18
theorem Db (l:List Fr):dB prog 18 [cB l] (bl (Cq l)):=by
 refine PC.le (qg z8 fun hb=>?_);have hb:l.length≤9223372036854775807:=by simpa[JF,DL,cB] using hb
 refine dP z8 ?_;repeat' ((conv=>whnf);first|with_reducible apply aP|((with_reducible apply fk)<;>intro hc<;>try exact aZ)|refine aN ?_|fail)
 ·repeat' first|apply And.intro|exact aM|fail
  all_goals try (conv=>whnf)
  simp[Cq] at *;omega
 refine⟨{k:Nat // k≤l.length∧∀j (hj:j<l.length),j<k→decide ((l[j].ah.length:Int)>30)=false},fun⟨k,_⟩=>⟨[(0,.pv (cB l)),(3,.pv (ii k))],1000000000,[]⟩,fun⟨k,_⟩=>l.length-k,⟨⟨0,by simp⟩,aH ?_⟩,?_⟩
 ·all_goals exact aM
 rintro⟨k,hk,hn⟩
 repeat' ((conv=>whnf);first|with_reducible apply aP|((with_reducible apply fk)<;>intro hc<;>try exact aZ)|refine aN ?_|fail)
 ·have hlt:k<l.length:=by simpa using hc
  refine⟨_,dR _ _ _ hlt,?_⟩;repeat' ((conv=>whnf);first|with_reducible apply aP|((with_reducible apply fk)<;>intro hc<;>try exact aZ)|refine aN ?_|fail)
  ·repeat' first|apply And.intro|exact aM|fail
   all_goals try (conv=>whnf)
   rw[List.length_map] at hc;have:=List.any_eq_true.2 (⟨l[k],List.getElem_mem hlt,hc⟩:∃x∈l,(fun f:Fr=>decide ((f.ah.length:Int)>30)) x=true);simp only[Cq,this,Bool.or_true]
  repeat' ((conv=>whnf);first|with_reducible apply aP|((with_reducible apply fk)<;>intro hc<;>try exact aZ)|refine aN ?_|fail)
  refine⟨⟨k+1,hlt,lX hn fun _=>by rw[List.length_map] at hc;exact hc⟩,dec_lt hlt,aH ?_⟩;repeat' first|apply And.intro|exact aM|fail
  all_goals try (conv=>whnf)
  exact bN (by omega) (by omega)
 have hk:k=l.length:=by simp at hc;omega
 subst hk;repeat' first|apply And.intro|exact aM|fail
 all_goals try (conv=>whnf)
 have h1:(l.any fun f=>decide ((f.ah.length:Int)>30))=false:=by
  rw[List.any_eq_false];intro x hx;have:=xU (q:=fun f:Fr=>decide ((f.ah.length:Int)>30)=false) hn x hx;simpa using this
 simp only[Cq,h1,Bool.or_false];simp at *;omega
theorem FY (l:List Pl)(k:Nat)(a b:Int):dB prog 52 [.sl false 2 ((List.map Pl.c l).take ((k:Nat):Int).toNat),.agg [ii a,uu b]] (bl ((l.take k).any (fun y=>y==⟨a,b⟩))):=by
 have h:=aA (l.take k) a b;rw[ax,List.map_take] at h;exact h
theorem I8:bR prog 163 f163:=fC func163
theorem Nr (set dV:List Pl):dB prog 163 [ax set,ax dV] (ii (JP set dV:Nat)):=by
 refine PC.le (qg I8 fun hb=>?_);have hb:set.length≤9223372036854775807:=by simp[JF,DL,ax] at hb;omega
 refine dP I8 ?_;repeat' ((conv=>whnf);first|with_reducible apply aP|((with_reducible apply fk)<;>intro hc<;>try exact aZ)|refine aN ?_|fail)
 refine⟨{k:Nat // k≤set.length},fun⟨k,_⟩=>⟨[(0,.pv (ax set)),(1,.pv (ax dV)),(5,.pv (ii (nL set dV k:Nat))),(8,.pv (ax set)),(9,.pv (ii set.length)),(10,.pv (ii k))],1000000000,[]⟩,fun⟨k,_⟩=>set.length-k,⟨⟨0,Nat.zero_le _⟩,aH ?_⟩,?_⟩
 ·repeat' first|apply And.intro|exact aM|fail
  all_goals try (conv=>whnf)
  all_goals simp
 rintro⟨k,hk⟩
 have hcl:=RF set dV k;by_cases hlt:k<set.length
 ·have d0:decide ((k:Int)<(set.length:Int))=true:=by simp only[iO];omega
  have eW:IntKind.i64.wrap ((k:Int)+1)=((k+1:Nat):Int):=by rw[bN (by omega) (by omega)];omega
  have eC:IntKind.i64.wrap ((nL set dV k:Int)+1)=((nL set dV k+1:Nat):Int):=by rw[bN (by omega) (by omega)];omega
  have es:nL set dV (k+1)=nL set dV k+(if (dV.any fun y=>y==(⟨set[k].node,set[k].aI⟩:Pl)) && !((set.take k).any fun y=>y==(⟨set[k].node,set[k].aI⟩:Pl)) then 1 else 0):=Bd set dV k hlt;have hct:=FY set k;repeat' ((conv=>whnf);first|with_reducible apply aP|((with_reducible apply fk)<;>intro hc<;>try exact aZ)|((refine⟨_,dR _ _ _ hlt,?_⟩))|(apply bA;refine⟨_,aA _ _ _,?_⟩)|(apply bA;refine⟨_,hct _ _,?_⟩)|(((with_reducible apply And.intro);focus (show (k:Int)≤((List.map Pl.c set).length:Int);rw[List.length_map];omega)))|refine aN ?_|fail)
  all_goals
   refine⟨⟨k+1,hlt⟩,dec_lt hlt,aH ?_⟩;repeat' first|apply And.intro|exact aM|fail
   all_goals try (conv=>whnf)
   all_goals first
    |exact eW
    |(rw[eC,es];simp only[*,Bool.and_self,Bool.true_and,Bool.false_and,Bool.false_eq_true,↓reduceIte,Nat.add_zero];done)
    |(rw[es];simp only[*,Bool.and_self,Bool.true_and,Bool.false_and,Bool.and_false,Bool.false_eq_true,↓reduceIte,Nat.add_zero];done)
 have hke:k=set.length:=by omega
 subst hke;have d0:decide ((set.length:Int)<(set.length:Int))=false:=by simp
 repeat' ((conv=>whnf);first|with_reducible apply aP|((with_reducible apply fk)<;>intro hc<;>try exact aZ)|refine aN ?_|fail)
 all_goals exact aM
theorem Vh:bR prog 134 f134:=fC func134
theorem nH (set:List Pl)(a:Int)(from_:List Pl):dB prog 134 [ax set,ii a,ax from_] (bl (bI set a from_)):=by
 refine PC.le ?_;refine dP Vh ?_;repeat' ((conv=>whnf);first|with_reducible apply aP|((with_reducible apply fk)<;>intro hc<;>try exact aZ)|(apply bA;refine⟨_,Nr _ _,?_⟩)|refine aN ?_|fail)
 all_goals
  repeat' first|apply And.intro|exact aM|fail
  all_goals try (conv=>whnf)
  all_goals first
   |(simp_all [bI];done)
   |(simp_all [bI];omega)
theorem Ns:bR prog 169 f169:=fC func169
theorem yK (set:List Pl)(w a:Int)(from_:List Pl)(hw:0≤w∧w≤9223372036854775807)(ha:0≤a):dB prog 169 [ax set,ii w,ii a,ax from_] (bl (fG set w a from_)):=by
 refine PC.le ?_;refine dP Ns ?_;repeat' ((conv=>whnf);first|with_reducible apply aP|((with_reducible apply fk)<;>intro hc<;>try exact aZ)|(apply bA;refine⟨_,Nr _ _,?_⟩)|refine aN ?_|fail)
 ·repeat' first|apply And.intro|exact aM|fail
  all_goals try (conv=>whnf)
  simp_all [fG]
 have e:IntKind.i64.wrap (w-a)=w-a:=by
  simp only[w9] at hc;exact bN (by omega) (by omega)
 repeat' first|apply And.intro|exact aM|fail
 all_goals try (conv=>whnf)
 rw[e];simp only[fG,hc,Bool.false_or]
theorem ZL:bR prog 186 f186:=fC func186
theorem acG (f:Fr)(w:Int):dB prog 186 [.agg f.c,ii w] (.fn (.func 191) [] [.dL f.c 0,.dL [ii w] 0]):=by
 refine PC.le ?_;refine dP ZL ?_;repeat' ((conv=>whnf);first|with_reducible apply aP|((with_reducible apply fk)<;>intro hc<;>try exact aZ)|refine aN ?_|fail)
 all_goals exact aM
theorem Vi:bR prog 191 f191:=fC func191
theorem ZM (f:Fr)(w:Int)(hw:1≤w∧w≤(f.ah.length:Int))(hl:f.ah.length≤8796093022208):abh prog 191 [.dL f.c 0,.dL [ii w] 0] ((nu f w).map fun s=>[ax s]):=by
 refine OA bU (cZ mixed bU) Vi rfl rfl (fun P0=>?_);repeat' ((conv=>whnf);first|with_reducible apply aP|((with_reducible apply fk)<;>intro hc<;>try exact aZ)|refine aN ?_|fail)
 refine⟨{k:Nat // k≤f.ah.length},fun⟨k,_⟩=>⟨[(0,.pv (.fn (.yield P0) [] [])),(1,.pv (.dL f.c 0)),(2,.pv (.dL [ii w] 0)),(7,.pv (ii f.ah.length)),(8,.pv (ii k))],1000000000,[(999,.tr (prog,P0) 0 (((nu f w).drop k).map fun s=>[ax s]) (some false))]⟩,fun⟨k,_⟩=>f.ah.length-k,⟨⟨0,Nat.zero_le _⟩,aH ?_⟩,?_⟩
 ·repeat' first|apply And.intro|exact aM|fail
  all_goals try (conv=>whnf)
  all_goals simp
 rintro⟨k,hk⟩
 by_cases hlt:k<f.ah.length
 ·have d0:decide ((k:Int)<(f.ah.length:Int))=true:=by simp only[iO];omega
  have eW:IntKind.i64.wrap ((k:Int)+1)=((k+1:Nat):Int):=by rw[bN (by omega) (by omega)];omega
  have hd:(nu f w).drop k=fF f.ah k w.toNat::(nu f w).drop (k+1):=by
   have hk2:k<(nu f w).length:=by simpa[nu] using hlt
   rw[List.drop_eq_getElem_cons hk2];simp[nu]
  have ahA:=Kj f.ah (k:Int) w (by omega) hl (by omega) (by omega);repeat' ((conv=>whnf);first|with_reducible apply aP|((with_reducible apply fk)<;>intro hc<;>try exact aZ)|(apply bA;refine⟨_,ahA,?_⟩)|((rw[hd];refine⟨_,_,rfl,q8 _,?_⟩))|refine aN ?_|fail)
  refine⟨trivial,⟨k+1,hlt⟩,dec_lt hlt,aH ?_⟩;repeat' first|apply And.intro|exact aM|fail
  all_goals try (conv=>whnf)
  exact eW
 have hke:k=f.ah.length:=by omega
 subst hke;have d0:decide ((f.ah.length:Int)<(f.ah.length:Int))=false:=by simp
 have hd:(nu f w).drop f.ah.length=[]:=List.drop_eq_nil_of_le (by simp[nu]);repeat' ((conv=>whnf);first|with_reducible apply aP|((with_reducible apply fk)<;>intro hc<;>try exact aZ)|refine aN ?_|fail)
 rw[hd];all_goals exact aM
theorem Nt:bR prog 165 f165:=fC func165
theorem yL (f:Fr)(w a:Int)(from_:List Pl)(hw:0≤w∧w≤9223372036854775807)(ha:0≤a)(hl:f.ah.length≤8796093022208):dB prog 165 [.agg f.c,ii w,ii a,ax from_] (bl (fH f w a from_)):=by
 refine PC.le ?_;refine dP Nt ?_;by_cases h1:decide (w<1)=true
 ·have e:fH f w a from_=false:=by unfold fH;rw[if_pos (by simp[h1])]
  rw[e];repeat' ((conv=>whnf);first|with_reducible apply aP|((with_reducible apply fk)<;>intro hc<;>try exact aZ)|refine aN ?_|fail)
  all_goals exact aM
 have h1:decide (w<1)=false:=by simpa using h1
 by_cases h2:decide (w>(f.ah.length:Int))=true
 ·have e:fH f w a from_=false:=by unfold fH;rw[if_pos (by simp[h2])]
  have h3:decide (w>((List.map Pl.c f.ah).length:Int))=true:=by rw[List.length_map];exact h2
  rw[e];repeat' ((conv=>whnf);first|with_reducible apply aP|((with_reducible apply fk)<;>intro hc<;>try exact aZ)|refine aN ?_|fail)
  all_goals exact aM
 have h2:decide (w>(f.ah.length:Int))=false:=by simpa using h2
 have h3:decide (w>((List.map Pl.c f.ah).length:Int))=false:=by rw[List.length_map];exact h2
 have e:fH f w a from_=(nu f w).all fun s=>fG s w a from_:=by unfold fH;rw[if_neg (by simp[h1,h2])]
 have ajS:=ZM f w (by simp at h1 h2;omega) hl;rw[e];repeat' ((conv=>whnf);first|with_reducible apply aP|((with_reducible apply fk)<;>intro hc<;>try exact aZ)|(apply bA;refine⟨_,acG _ _,?_⟩)|refine aN ?_|fail)
 refine⟨_,_,_,ajS,Unit,fun k _=>∀j (hj:j<(nu f w).length),j<k→fG (nu f w)[j] w a from_=true,fun _ _=>⟨[(5,.ptr 505 0),(6,.ptr 506 0),(7,.ptr 507 0),(8,.ptr 508 0),(21,.pv (.fn (.func 191) [] [.dL f.c 0,.dL [ii w] 0]))],1000000000,[(505,.var [.pv (ii w)]),(506,.var [.pv (ii a)]),(507,.var [.pv (ax from_)]),(508,.var [.pv (bl false)])]⟩,⟨(),aH ?_⟩,fun _=>rfl,fun _ _=>rfl,?_,?_⟩
 ·all_goals exact aM
 ·intro k x _ hx;have hk:k<(nu f w).length:=by simpa using (List.getElem?_eq_some_iff.1 hx).1
  have hx:x=[ax (nu f w)[k]]:=by
   have:=(List.getElem?_eq_some_iff.1 hx).2;simpa using this.symm
  subst hx;have acH:=yK (nu f w)[k] w a from_ hw ha
  (conv=>whnf)
  intro h0;cases hm:fG (nu f w)[k] w a from_ with
  | true=>
    rw[hm] at acH;repeat' ((conv=>whnf);first|with_reducible apply aP|((with_reducible apply fk)<;>intro hc<;>try exact aZ)|(apply bA;refine⟨_,acH,?_⟩)|refine aN ?_|fail)
    refine⟨(),fun j hj hjk=>?_,aH ?_⟩
    ·by_cases ajT:j=k
     ·subst ajT;exact hm
     exact h0 (by omega) j hj (by omega)
    all_goals exact aM
  | false=>
    rw[hm] at acH;repeat' ((conv=>whnf);first|with_reducible apply aP|((with_reducible apply fk)<;>intro hc<;>try exact aZ)|(apply bA;refine⟨_,acH,?_⟩)|refine aN ?_|fail)
    repeat' first|apply And.intro|exact aM|fail
    all_goals try (conv=>whnf)
    symm;rw[List.all_eq_false];exact⟨_,List.getElem_mem hk,by rw[hm];simp⟩
 intro _ h0;rw[List.length_map] at h0;repeat' ((conv=>whnf);first|with_reducible apply aP|((with_reducible apply fk)<;>intro hc<;>try exact aZ)|refine aN ?_|fail)
 repeat' first|apply And.intro|exact aM|fail
 all_goals try (conv=>whnf)
 symm;rw[List.all_eq_true];intro s hs;obtain⟨j,hj,rfl⟩:=List.getElem_of_mem hs;exact h0 (by omega) j hj hj
def akD:Tab:=pin tab
theorem aaA:bY prog akD:=UG bU
theorem akE {α:Type}(c:α→List PV)(A:List α)(x:α)(B:List α)(k:Nat)(h:k<A.length):((A++x::B).map c)[k]? = some (c A[k]):=by
 rw[List.map_append,List.getElem?_append_left (by simpa using h)];simp[h]
theorem akF {α:Type}(c:α→List PV)(A:List α)(x:α)(B:List α):((A++x::B).map c)[A.length]? = some (c x):=by
 simp
theorem akG {α:Type}(c:α→List PV)(A:List α)(x:α)(B:List α)(k:Nat)(h:k<B.length):((A++x::B).map c)[A.length+1+k]? = some (c B[k]):=by
 rw[List.map_append,List.getElem?_append_right (by simp;omega)];simp[show A.length+1+k-A.length=k+1 by omega,h]
theorem NG:bR prog 83 f83:=fC func83
theorem NH:bR prog 125 f125:=fC func125
theorem aaB:bR prog 123 f123:=fC func123
theorem NI:bR prog 124 f124:=fC func124
theorem SB:bR prog 69 f69:=fC func69
theorem tT (f:Fr)(h:f.ah.length≤1000):dB prog 83 [.agg f.c] (.agg f.c):=by
 refine PC.le ?_;refine dP NG ?_;repeat' ((conv=>whnf);first|with_reducible apply aP|((with_reducible apply fk)<;>intro hc<;>try exact aZ)|(apply bA;refine⟨_,l8 _ (by omega),?_⟩)|refine aN ?_|fail)
 all_goals exact aM
theorem Kz (x:Wt)(h:Sq x):dB prog 125 ([]++([.agg x.c]++[])) (.agg x.c):=by
 have h1:=h.body;have h2:=h.from_;refine PC.le ?_;refine dP NH ?_;repeat' ((conv=>whnf);first|with_reducible apply aP|((with_reducible apply fk)<;>intro hc<;>try exact aZ)|(apply bA;refine⟨_,fA _ (by omega),?_⟩)|(apply bA;refine⟨_,l8 _ (by omega),?_⟩)|refine aN ?_|fail)
 all_goals exact aM
theorem acV (x:Wt)(h:Sq x):dU prog 125 ([]++([.pv (.agg x.c)]++[])) [] (.agg (wtA x (.aO 1001 0))) [(1001,.arr 27 0 2 (x.from_.map Pl.c))]:=by
 have h1:=h.body;have h2:=h.from_;refine eO NH ?_;repeat' ((conv=>whnf);first|with_reducible apply aP|((with_reducible apply fk)<;>intro hc<;>try exact aZ)|(apply bA;refine⟨_,fA _ (by omega),?_⟩)|(apply dn;refine⟨_,_,fJ _ (by omega),?_⟩)|refine aN ?_|fail)
 refine⟨_,_,⟨rfl,rfl⟩,?_⟩;all_goals exact aM
theorem SC (l:List Fr)(h:l.length≤1000)(hb:∀f∈l,f.ah.length≤1000):dU prog 123 [.pv (cB l),.pv (.fn (.func 83) [] [])] [] (.aO 1001 0) [(1001,.arr 48 0 2 (l.map Fr.c))]:=by
 refine eO aaB ?_;repeat' ((conv=>whnf);first|with_reducible apply aP|((with_reducible apply fk)<;>intro hc<;>try exact aZ)|refine aN ?_|fail)
 refine⟨{k:Nat // k≤l.length},fun⟨k,_⟩=>⟨[(1,.pv (.fn (.func 83) [] [])),(5,.aO 1001 0),(8,.pv (cB l)),(9,.pv (ii l.length)),(10,.pv (ii k))],1000000000,[(1001,.arr 48 0 2 ((l.take k).map Fr.c))]⟩,fun⟨k,_⟩=>l.length-k,⟨⟨0,by simp⟩,aH ?_⟩,?_⟩
 ·repeat' first|apply And.intro|exact aM|fail
  all_goals try (conv=>whnf)
  all_goals simp
 rintro⟨k,hk⟩
 by_cases hlt:k<l.length
 ·have d0:decide ((k:Int)<(l.length:Int))=true:=by simp only[iO];omega
  have eW:IntKind.i64.wrap ((k:Int)+1)=((k+1:Nat):Int):=by rw[bN (by omega) (by omega)];omega
  repeat' ((conv=>whnf);first|with_reducible apply aP|((with_reducible apply fk)<;>intro hc<;>try exact aZ)|((refine⟨_,dR _ _ _ hlt,?_⟩))|(apply bA;refine⟨_,tT _ (hb _ (List.getElem_mem hlt)),?_⟩)|(((with_reducible apply And.intro);focus (simp only[fE,jQ,jR,List.length_take,rq] at *;omega)))|refine aN ?_|fail)
  refine⟨⟨k+1,hlt⟩,dec_lt hlt,aH ?_⟩;repeat' first|apply And.intro|exact aM|fail
  all_goals try (conv=>whnf)
  all_goals first
   |exact eW
   | (rw[List.take_succ_eq_append_getElem hlt,List.map_append]
      refine bW (aB _) ?_
      (repeat' first|apply And.intro|exact aM|fail);(all_goals try (conv=>whnf)))
 have hke:k=l.length:=by omega
 subst hke;have d0:decide ((l.length:Int)<(l.length:Int))=false:=by simp
 repeat' ((conv=>whnf);first|with_reducible apply aP|((with_reducible apply fk)<;>intro hc<;>try exact aZ)|refine aN ?_|fail)
 refine⟨_,_,⟨rfl,rfl⟩,?_⟩;repeat' first|apply And.intro|exact aM|fail
 all_goals try (conv=>whnf)
 all_goals (rw[List.take_length];exact aB _)
theorem acW (l:List Wt)(h:l.length≤1000)(hb:∀x∈l,Sq x):dU prog 124 [.pv (rJ l),.pv (.fn (.func 125) [] [])] [] (.aO 1001 0) [(1001,.arr 145 0 5 (l.map Wt.c))]:=by
 refine eO NI ?_;repeat' ((conv=>whnf);first|with_reducible apply aP|((with_reducible apply fk)<;>intro hc<;>try exact aZ)|refine aN ?_|fail)
 refine⟨{k:Nat // k≤l.length},fun⟨k,_⟩=>⟨[(1,.pv (.fn (.func 125) [] [])),(5,.aO 1001 0),(8,.pv (rJ l)),(9,.pv (ii l.length)),(10,.pv (ii k))],1000000000,[(1001,.arr 145 0 5 ((l.take k).map Wt.c))]⟩,fun⟨k,_⟩=>l.length-k,⟨⟨0,by simp⟩,aH ?_⟩,?_⟩
 ·repeat' first|apply And.intro|exact aM|fail
  all_goals try (conv=>whnf)
  all_goals simp
 rintro⟨k,hk⟩
 by_cases hlt:k<l.length
 ·have d0:decide ((k:Int)<(l.length:Int))=true:=by simp only[iO];omega
  have eW:IntKind.i64.wrap ((k:Int)+1)=((k+1:Nat):Int):=by rw[bN (by omega) (by omega)];omega
  repeat' ((conv=>whnf);first|with_reducible apply aP|((with_reducible apply fk)<;>intro hc<;>try exact aZ)|((refine⟨_,dR _ _ _ hlt,?_⟩))|(apply bA;refine⟨_,Kz _ (hb _ (List.getElem_mem hlt)),?_⟩)|(((with_reducible apply And.intro);focus (simp only[fE,jQ,jR,List.length_take,rq] at *;omega)))|refine aN ?_|fail)
  refine⟨⟨k+1,hlt⟩,dec_lt hlt,aH ?_⟩;repeat' first|apply And.intro|exact aM|fail
  all_goals try (conv=>whnf)
  all_goals first
   |exact eW
   | (rw[List.take_succ_eq_append_getElem hlt,List.map_append]
      refine bW (aB _) ?_
      (repeat' first|apply And.intro|exact aM|fail);(all_goals try (conv=>whnf)))
 have hke:k=l.length:=by omega
 subst hke;have d0:decide ((l.length:Int)<(l.length:Int))=false:=by simp
 repeat' ((conv=>whnf);first|with_reducible apply aP|((with_reducible apply fk)<;>intro hc<;>try exact aZ)|refine aN ?_|fail)
 refine⟨_,_,⟨rfl,rfl⟩,?_⟩;repeat' first|apply And.intro|exact aM|fail
 all_goals try (conv=>whnf)
 all_goals (rw[List.take_length];exact aB _)
theorem acX (A:List Wt)(x:Wt)(B:List Wt)(h:A.length+(1+B.length)≤1000)(hA:∀y∈A,Sq y)(hx:Sq x)(hB:∀y∈B,Sq y):dU prog 124 [.pv (rJ (A++x::B)),.pv (.fn (.func 125) [] [])] [] (.aO 1001 0)
  [(1001,.gy 145 0 5 (A.map Wt.c) (wtA x (.aO 1002 0)) (B.map Wt.c)),(1002,.arr 27 0 2 (x.from_.map Pl.c))]:=by
 have hn:(A++x::B).length=A.length+(1+B.length):=by simp[Nat.add_comm]
 have hm:(((A++x::B).map Wt.c).length:Int)=((A.length+(1+B.length):Nat):Int):=by rw[List.length_map,hn]
 refine y9 aaA (cZ mixed aaA) NI rfl ?_;repeat' ((conv=>whnf);first|with_reducible apply aP|((with_reducible apply fk)<;>intro hc<;>try exact aZ)|refine aN ?_|fail)
 refine⟨{k:Nat // k≤A.length} ⊕ {k:Nat // k≤B.length},fun i=>match i with
   |.inl ⟨k,_⟩=>⟨[(1,.pv (.fn (.func 125) [] [])),(5,.aO 1001 0),(8,.pv (rJ (A++x::B))),(9,.pv (ii ((A.length+(1+B.length):Nat)))),(10,.pv (ii k))],1000000000,[(1001,.arr 145 0 5 ((A.take k).map Wt.c))]⟩
   |.inr ⟨k,_⟩=>⟨[(1,.pv (.fn (.func 125) [] [])),(5,.aO 1001 0),(8,.pv (rJ (A++x::B))),(9,.pv (ii ((A.length+(1+B.length):Nat)))),(10,.pv (ii ((A.length+1+k:Nat))))],1000000000,[(1001,.gy 145 0 5 (A.map Wt.c) (wtA x (.aO 1002 0)) ((B.take k).map Wt.c)),(1002,.arr 27 0 2 (x.from_.map Pl.c))]⟩,
  fun i=>match i with
   |.inl ⟨k,_⟩=>A.length+(1+B.length)-k
   |.inr ⟨k,_⟩=>B.length-k,⟨.inl ⟨0,by simp⟩,aH ?_⟩,?_⟩
 ·repeat' first|apply And.intro|exact aM|fail
  all_goals try (conv=>whnf)
  all_goals first
   |exact hm
   |simp
 rintro (⟨k,hk⟩|⟨k,hk⟩)
 ·by_cases hlt:k<A.length
  ·have d0:decide ((k:Int)<((A.length+(1+B.length):Nat):Int))=true:=by simp only[iO];omega
   have eW:IntKind.i64.wrap ((k:Int)+1)=((k+1:Nat):Int):=by rw[bN (by omega) (by omega)];omega
   have hr:=akE Wt.c A x B k hlt;repeat' ((conv=>whnf);first|with_reducible apply aP|((with_reducible apply fk)<;>intro hc<;>try exact aZ)|((refine⟨_,hr,?_⟩))|(apply bA;refine⟨_,Kz _ (hA _ (List.getElem_mem hlt)),?_⟩)|(((with_reducible apply And.intro);focus (simp only[fE,jQ,jR,List.length_take,rq] at *;omega)))|refine aN ?_|fail)
   refine⟨.inl ⟨k+1,hlt⟩,by simp only;omega,aH ?_⟩;repeat' first|apply And.intro|exact aM|fail
   all_goals try (conv=>whnf)
   all_goals first
    |exact eW
    | (rw[List.take_succ_eq_append_getElem hlt,List.map_append]
       refine bW (aB _) ?_
       (repeat' first|apply And.intro|exact aM|fail);(all_goals try (conv=>whnf)))
  have hke:k=A.length:=by omega
  subst hke;have d0:decide ((A.length:Int)<((A.length+(1+B.length):Nat):Int))=true:=by simp only[iO];omega
  have eW:IntKind.i64.wrap ((A.length:Int)+1)=((A.length+1+0:Nat):Int):=by rw[bN (by omega) (by omega)];omega
  have hr:=akF Wt.c A x B;repeat' ((conv=>whnf);first|with_reducible apply aP|((with_reducible apply fk)<;>intro hc<;>try exact aZ)|((refine⟨_,hr,?_⟩))|(apply dn;refine⟨_,_,acV _ hx,?_⟩)|(((with_reducible apply And.intro);focus (simp only[fE,jQ,jR,List.length_take,rq] at *;omega)))|refine aN ?_|fail)
  refine⟨.inr ⟨0,by omega⟩,by simp only;omega,aH ?_⟩;repeat' first|apply And.intro|exact aM|fail
  all_goals try (conv=>whnf)
  all_goals first
   |exact eW
   |(rw[List.take_length];exact aB _)
   |simp
 by_cases hlt:k<B.length
 ·have d0:decide (((A.length+1+k:Nat):Int)<((A.length+(1+B.length):Nat):Int))=true:=by simp only[iO];omega
  have eW:IntKind.i64.wrap (((A.length+1+k:Nat):Int)+1)=((A.length+1+(k+1):Nat):Int):=by rw[bN (by omega) (by omega)];omega
  have hr:=akG Wt.c A x B k hlt;repeat' ((conv=>whnf);first|with_reducible apply aP|((with_reducible apply fk)<;>intro hc<;>try exact aZ)|((refine⟨_,hr,?_⟩))|(apply bA;refine⟨_,Kz _ (hB _ (List.getElem_mem hlt)),?_⟩)|(((with_reducible apply And.intro);focus (simp only[fE,jQ,jR,List.length_take,rq] at *;omega)))|refine aN ?_|fail)
  refine⟨.inr ⟨k+1,hlt⟩,by simp only;omega,aH ?_⟩;repeat' first|apply And.intro|exact aM|fail
  all_goals try (conv=>whnf)
  all_goals first
   |exact eW
   | (rw[List.take_succ_eq_append_getElem hlt,List.map_append]
      refine bW (aB _) ?_
      (repeat' first|apply And.intro|exact aM|fail);(all_goals try (conv=>whnf)))
 have hke:k=B.length:=by omega
 subst hke;have d0:decide (((A.length+1+B.length:Nat):Int)<((A.length+(1+B.length):Nat):Int))=false:=by simp only[w9];omega
 repeat' ((conv=>whnf);first|with_reducible apply aP|((with_reducible apply fk)<;>intro hc<;>try exact aZ)|refine aN ?_|fail)
 refine⟨_,_,⟨rfl,rfl⟩,?_⟩;repeat' first|apply And.intro|exact aM|fail
 all_goals try (conv=>whnf)
 all_goals (rw[List.take_length];exact aB _)
section
variable (w:Wr)(h:WrB w)
include h
theorem Ah:dU prog 69 [.pv (.agg w.c)] [] (.ptr 1001 0)
  [(1001,.var (pX w (.aO 1002 0) (.aO 1003 0) (.aO 1004 0) (.pv fQ))),(1002,.arr 48 0 2 (w.l.af.map Fr.c)),(1003,.arr 145 0 5 (w.waits.map Wt.c)),(1004,.arr 27 0 2 (w.bad.map Pl.c))]:=by
 have h1:=h.bl;have h2:=tT w.change h.cl;have h3:=SC _ h.fl h.fb;have h4:=acW _ h.wl h.wx;clear h;refine eO SB ?_;repeat' ((conv=>whnf);first|with_reducible apply aP|((with_reducible apply fk)<;>intro hc<;>try exact aZ)|rewrite[pY]|rewrite[p8]|(apply dn;refine⟨_,_,h3,?_⟩)|(apply dn;refine⟨_,_,h4,?_⟩)|(apply dn;refine⟨_,_,fJ _ (by omega),?_⟩)|(apply bA;refine⟨_,aG (h2) ?_,?_⟩;exact bD)|refine aN ?_|fail)
 refine⟨_,_,⟨rfl,rfl⟩,?_⟩;all_goals exact aM
theorem tV:dU prog 69 [.pv (.agg w.c)] [] (.ptr 1001 0)
  [(1001,.var (pX w (.pv (cB w.l.af)) (.pv (rJ w.waits)) (.pv (ax w.bad)) (.pv fQ)))]:=by
 refine gu (Ah w h) [1002,1003,1004] ?_
 (conv=>whnf)
 refine⟨_,_,⟨rfl,rfl⟩,?_⟩;all_goals exact aM
theorem acY:dU prog 69 [.pv (.agg w.c)] [] (.ptr 1001 0)
  [(1001,.var (pX w (.pv (cB w.l.af)) (.aO 1003 0) (.pv (ax w.bad)) (.pv fQ))),(1003,.arr 145 0 5 (w.waits.map Wt.c))]:=by
 refine gu (Ah w h) [1002,1004] ?_
 (conv=>whnf)
 refine⟨_,_,⟨rfl,rfl⟩,?_⟩;all_goals exact aM
theorem acZ:dU prog 69 [.pv (.agg w.c)] [] (.ptr 1001 0)
  [(1001,.var (pX w (.pv (cB w.l.af)) (.pv (rJ w.waits)) (.aO 1004 0) (.pv fQ))),(1004,.arr 27 0 2 (w.bad.map Pl.c))]:=by
 refine gu (Ah w h) [1002,1003] ?_
 (conv=>whnf)
 refine⟨_,_,⟨rfl,rfl⟩,?_⟩;all_goals exact aM
theorem ac0:dU prog 69 [.pv (.agg w.c)] [] (.ptr 1001 0)
  [(1001,.var (pX w (.pv (cB w.l.af)) (.aO 1003 0) (.aO 1004 0) (.pv fQ))),(1003,.arr 145 0 5 (w.waits.map Wt.c)),(1004,.arr 27 0 2 (w.bad.map Pl.c))]:=by
 refine gu (Ah w h) [1002] ?_
 (conv=>whnf)
 refine⟨_,_,⟨rfl,rfl⟩,?_⟩;all_goals exact aM
theorem ac1:dU prog 69 [.pv (.agg w.c)] [] (.ptr 1001 0)
  [(1001,.var (pX w (.aO 1002 0) (.aO 1003 0) (.pv (ax w.bad)) (.pv fQ))),(1002,.arr 48 0 2 (w.l.af.map Fr.c)),(1003,.arr 145 0 5 (w.waits.map Wt.c))]:=by
 refine gu (Ah w h) [1004] ?_
 (conv=>whnf)
 refine⟨_,_,⟨rfl,rfl⟩,?_⟩;all_goals exact aM
theorem ac2 (A:List Wt)(x:Wt)(B:List Wt)(hx:w.waits=A++x::B):dU prog 69 [.pv (.agg w.c)] [] (.ptr 1001 0)
  [(1001,.var (pX w (.aO 1002 0) (.aO 1003 0) (.aO 1005 0) (.pv fQ))),(1002,.arr 48 0 2 (w.l.af.map Fr.c)),(1003,.gy 145 0 5 (A.map Wt.c) (wtA x (.aO 1004 0)) (B.map Wt.c)),(1004,.arr 27 0 2 (x.from_.map Pl.c)),(1005,.arr 27 0 2 (w.bad.map Pl.c))]:=by
 have h1:=h.bl;have h2:=tT w.change h.cl;have h3:=SC _ h.fl h.fb;have hl:=h.wl;have hw:=h.wx;rw[hx] at hl hw;have h4:=acX A x B (by simpa[Nat.add_comm] using hl) (fun y hy=>hw y (by simp[hy])) (hw x (by simp)) (fun y hy=>hw y (by simp[hy]));rw[←hx] at h4;clear h hx hl hw;refine eO SB ?_;repeat' ((conv=>whnf);first|with_reducible apply aP|((with_reducible apply fk)<;>intro hc<;>try exact aZ)|rewrite[pY]|rewrite[p8]|(apply dn;refine⟨_,_,h3,?_⟩)|(apply dn;refine⟨_,_,h4,?_⟩)|(apply dn;refine⟨_,_,fJ _ (by omega),?_⟩)|(apply bA;refine⟨_,aG (h2) ?_,?_⟩;exact bD)|refine aN ?_|fail)
 refine⟨_,_,⟨rfl,rfl⟩,?_⟩;all_goals exact aM
theorem ac3 (A:List Wt)(x:Wt)(B:List Wt)(hx:w.waits=A++x::B):dU prog 69 [.pv (.agg w.c)] [] (.ptr 1001 0)
  [(1001,.var (pX w (.pv (cB w.l.af)) (.aO 1003 0) (.pv (ax w.bad)) (.pv fQ))),(1003,.gy 145 0 5 (A.map Wt.c) (wtA x (.aO 1004 0)) (B.map Wt.c)),(1004,.arr 27 0 2 (x.from_.map Pl.c))]:=by
 refine gu (ac2 w h A x B hx) [1002,1005] ?_
 (conv=>whnf)
 refine⟨_,_,⟨rfl,rfl⟩,?_⟩;all_goals exact aM
end
def wkP (w:Wr)(W B O:PV):List PV:=[uu w.l.id,ii w.l.w,ii w.l.a,cB w.l.af,ii w.l.closed,uu w.l.last,uu w.au,uu w.next,uu w.sure,W,B,uu w.change.first,ax w.change.ah,ii w.fenced,O]
theorem aaC:bR prog 114 f114:=fC func114
theorem ac4 (w:Wr):dB prog 114 [.agg w.c] (bl (decide (w.next>8))):=by
 refine PC.le ?_;refine dP aaC ?_;repeat' ((conv=>whnf);first|with_reducible apply aP|((with_reducible apply fk)<;>intro hc<;>try exact aZ)|refine aN ?_|fail)
 all_goals exact aM
theorem aaD:bR prog 76 f76:=fC func76
theorem SE (now since t:Int)(h1:gF now)(h2:gF since):dB prog 76 [uu now,uu since,uu t] (bl (pF now since t)):=by
 obtain⟨h1,h1'⟩:=h1;obtain⟨h2,h2'⟩:=h2;refine PC.le ?_;have e:IntKind.u64.wrap ((if since>now then since else now)-since)=(if since>now then since else now)-since:=gX (by split<;>omega) (by split<;>omega);refine dP aaD ?_;repeat' ((conv=>whnf);first|with_reducible apply aP|((with_reducible apply fk)<;>intro hc<;>try exact aZ)|refine aN ?_|fail)
 repeat' first|apply And.intro|exact aM|fail
 all_goals try (conv=>whnf)
 rw[e];rfl
theorem Ai:bR prog 77 f77:=fC func77
theorem ac5 (w:Wr)(W B O:PV)(n:Int)(hf:bg w.l.af)(hn:gF n):dB prog 77 [.dL (wkP w W B O) 0,uu n] (ax (eT w n)):=by
 have hs:=iU w.l.af w.l.w n hf hn;refine PC.le ?_;refine dP Ai ?_;repeat' ((conv=>whnf);first|with_reducible apply aP|((with_reducible apply fk)<;>intro hc<;>try exact aZ)|(apply bA;refine⟨_,hs,?_⟩)|refine aN ?_|fail)
 all_goals exact aM
theorem lJ:bR prog 82 f82:=fC func82
theorem F4 (l:List Fr)(h:0<l.length):∃k,∃hk:k<l.length,k=l.length-1∧bH l=l[k]:=by
 refine⟨l.length-1,by omega,rfl,?_⟩;unfold bH;rw[List.getLast?_eq_getElem?,List.getElem?_eq_getElem (by omega)];rfl
theorem pU:bH []=kQ:=rfl
theorem QU:bR prog 154 f154:=fC func154
theorem VP (p:Pl)(f:Fr):dB prog 154 ([]++([.agg f.c]++[.dL p.c 0])) (bl (gY f.ah p)):=by
 refine PC.le ?_;refine dP QU ?_;repeat' ((conv=>whnf);first|with_reducible apply aP|((with_reducible apply fk)<;>intro hc<;>try exact aZ)|(apply bA;refine⟨_,aA _ _ _,?_⟩)|refine aN ?_|fail)
 all_goals exact aM
theorem VQ:bR prog 117 f117:=fC func117
theorem BN (w:Wr)(W B O:PV)(p:Pl):dB prog 117 [.dL (wkP w W B O) 0,.agg p.c] (bl (yB w p)):=by
 have hcf:=pO w.l.af 154 [] [.dL p.c 0] (fun f=>gY f.ah p) (fun f _=>VP p f);refine PC.le ?_;refine dP VQ ?_;repeat' ((conv=>whnf);first|with_reducible apply aP|((with_reducible apply fk)<;>intro hc<;>try exact aZ)|(apply bA;refine⟨_,hcf,?_⟩)|refine aN ?_|fail)
 all_goals exact aM
theorem xw:bR prog 115 f115:=fC func115
theorem KA (l:List Wt)(f:FuncId)(first bF:List PV)(p:Wt→Bool)(hp:∀x∈l,dB prog f (first++([.agg x.c]++bF)) (bl (p x))) :
  dB prog 115 [rJ l,.fn (.func f) first bF] (ii (uE p l)):=by
 refine PC.le (qg xw fun hb=>?_);have hb:l.length≤9223372036854775807:=by simpa[JF,DL,rJ] using hb
 refine dP xw ?_;repeat' ((conv=>whnf);first|with_reducible apply aP|((with_reducible apply fk)<;>intro hc<;>try exact aZ)|refine aN ?_|fail)
 refine⟨{k:Nat // k≤l.length∧∀j (hj:j<l.length),j<k→p l[j]=false},fun⟨k,_⟩=>⟨[(0,.pv (rJ l)),(1,.pv (.fn (.func f) first bF)),(7,.pv (ii l.length)),(8,.pv (ii k))],1000000000,[]⟩,fun⟨k,_⟩=>l.length-k,⟨⟨0,by simp⟩,aH ?_⟩,?_⟩
 ·repeat' first|apply And.intro|exact aM|fail
  all_goals try (conv=>whnf)
  simp
 rintro⟨k,hk,hn⟩
 repeat' ((conv=>whnf);first|with_reducible apply aP|((with_reducible apply fk)<;>intro hc<;>try exact aZ)|refine aN ?_|fail)
 ·have hlt:k<l.length:=by simpa using hc
  refine⟨_,dR _ _ _ hlt,?_⟩;repeat' ((conv=>whnf);first|with_reducible apply aP|((with_reducible apply fk)<;>intro hc<;>try exact aZ)|(apply bA;refine⟨_,hp _ (List.getElem_mem hlt),?_⟩)|refine aN ?_|fail)
  ·repeat' first|apply And.intro|exact aM|fail
   all_goals try (conv=>whnf)
   exact (Bc _ hlt hn hc).symm
  repeat' ((conv=>whnf);first|with_reducible apply aP|((with_reducible apply fk)<;>intro hc<;>try exact aZ)|refine aN ?_|fail)
  refine⟨⟨k+1,hlt,lX hn fun _=>hc⟩,dec_lt hlt,aH ?_⟩;repeat' first|apply And.intro|exact aM|fail
  all_goals try (conv=>whnf)
  exact bN (by omega) (by omega)
 repeat' first|apply And.intro|exact aM|fail
 all_goals try (conv=>whnf)
 have:k=l.length:=by simp at hc;omega
 subst this;exact (o7 _ (xU hn)).symm
theorem xA:bR prog 161 f161:=fC func161
theorem Aj (l:List Wt)(f:FuncId)(first bF:List PV)(p:Wt→Bool)(hp:∀x∈l,dB prog f (first++([.agg x.c]++bF)) (bl (p x))) :
  dB prog 161 [rJ l,.fn (.func f) first bF] (ii (uE p l)):=by
 refine PC.le (qg xA fun hb=>?_);have hb:l.length≤9223372036854775807:=by simpa[JF,DL,rJ] using hb
 refine dP xA ?_;repeat' ((conv=>whnf);first|with_reducible apply aP|((with_reducible apply fk)<;>intro hc<;>try exact aZ)|refine aN ?_|fail)
 refine⟨{k:Nat // k≤l.length∧∀j (hj:j<l.length),j<k→p l[j]=false},fun⟨k,_⟩=>⟨[(0,.pv (rJ l)),(1,.pv (.fn (.func f) first bF)),(7,.pv (ii l.length)),(8,.pv (ii k))],1000000000,[]⟩,fun⟨k,_⟩=>l.length-k,⟨⟨0,by simp⟩,aH ?_⟩,?_⟩
 ·repeat' first|apply And.intro|exact aM|fail
  all_goals try (conv=>whnf)
  simp
 rintro⟨k,hk,hn⟩
 repeat' ((conv=>whnf);first|with_reducible apply aP|((with_reducible apply fk)<;>intro hc<;>try exact aZ)|refine aN ?_|fail)
 ·have hlt:k<l.length:=by simpa using hc
  refine⟨_,dR _ _ _ hlt,?_⟩;repeat' ((conv=>whnf);first|with_reducible apply aP|((with_reducible apply fk)<;>intro hc<;>try exact aZ)|(apply bA;refine⟨_,hp _ (List.getElem_mem hlt),?_⟩)|refine aN ?_|fail)
  ·repeat' first|apply And.intro|exact aM|fail
   all_goals try (conv=>whnf)
   exact (Bc _ hlt hn hc).symm
  repeat' ((conv=>whnf);first|with_reducible apply aP|((with_reducible apply fk)<;>intro hc<;>try exact aZ)|refine aN ?_|fail)
  refine⟨⟨k+1,hlt,lX hn fun _=>hc⟩,dec_lt hlt,aH ?_⟩;repeat' first|apply And.intro|exact aM|fail
  all_goals try (conv=>whnf)
  exact bN (by omega) (by omega)
 repeat' first|apply And.intro|exact aM|fail
 all_goals try (conv=>whnf)
 have:k=l.length:=by simp at hc;omega
 subst this;exact (o7 _ (xU hn)).symm
theorem VR:bR prog 116 f116:=fC func116
theorem VS:bR prog 118 f118:=fC func118
theorem VT:bR prog 119 f119:=fC func119
theorem VU:bR prog 79 f79:=fC func79
theorem aaE (r:Rs)(x:Wt):dB prog 116 ([]++([.agg x.c]++[.dL r.c 0])) (bl (x.n==r.n)):=by
 refine PC.le ?_;refine dP VR ?_;repeat' ((conv=>whnf);first|with_reducible apply aP|((with_reducible apply fk)<;>intro hc<;>try exact aZ)|refine aN ?_|fail)
 all_goals exact aM
theorem aaF (r:Rs)(x:Pl):dB prog 118 ([]++([.agg x.c]++[.dL r.c 0])) (bl (x==r.from_)):=by
 refine PC.le ?_;refine dP VS ?_;repeat' ((conv=>whnf);first|with_reducible apply aP|((with_reducible apply fk)<;>intro hc<;>try exact aZ)|refine aN ?_|fail)
 repeat' first|apply And.intro|exact aM|fail
 all_goals try (conv=>whnf)
 all_goals first
  |exact Pl.agJ _ _ _
  |skip
theorem aaG (r:Rs)(x:Pl):dB prog 119 ([]++([.agg x.c]++[.dL r.c 0])) (bl ((x.node==r.from_.node) && !(x.aI==r.from_.aI))):=by
 refine PC.le ?_;refine dP VT ?_;repeat' ((conv=>whnf);first|with_reducible apply aP|((with_reducible apply fk)<;>intro hc<;>try exact aZ)|refine aN ?_|fail)
 all_goals (repeat' first|apply And.intro|exact aM|fail);(all_goals try (conv=>whnf))
 all_goals first
  |rfl
  |(simp_all;done)
  |(simp_all;rfl)
theorem aaH (y:Pl)(x:Pl):dB prog 79 ([]++([.agg x.c]++[.dL y.c 0])) (bl (x==y)):=by
 refine PC.le ?_;refine dP VU ?_;repeat' ((conv=>whnf);first|with_reducible apply aP|((with_reducible apply fk)<;>intro hc<;>try exact aZ)|refine aN ?_|fail)
 repeat' first|apply And.intro|exact aM|fail
 all_goals try (conv=>whnf)
 all_goals first
  |exact Pl.agJ _ _ _
  |skip
theorem VW:bR prog 133 f133:=fC func133
theorem aaI (w:Wr)(W B O:PV)(x:Wt)(hf:bg w.l.af)(hx:gF x.n):dB prog 133 ([]++([.agg x.c]++[.dL [.dL (wkP w W B O) 0] 0])) (bl (fI w x)):=by
 have hs:=ac5 w W B O x.n hf hx;have ha:=nH (eT w x.n) w.l.a x.from_;refine PC.le ?_;unfold fI;generalize bI (eT w x.n) w.l.a x.from_=u at *;generalize eT w x.n=sw at *;cases u<;>cases e1:(w.change.first==0)
 all_goals
  refine dP VW ?_;repeat' ((conv=>whnf);first|with_reducible apply aP|((with_reducible apply fk)<;>intro hc<;>try exact aZ)|(apply bA;refine⟨_,aG (hs) ?_,?_⟩;exact bD)|(apply bA;refine⟨_,aG (ha) ?_,?_⟩;exact bD)|refine aN ?_|fail)
  all_goals exact aM
 all_goals simp_all
theorem aaJ:bR prog 162 f162:=fC func162
theorem SF (w:Wr)(W B O:PV)(x:Wt)(hf:bg w.l.af)(hx:gF x.n):dB prog 162 ([]++([.agg x.c]++[.dL [.fn (.func 133) [] [.dL [.dL (wkP w W B O) 0] 0]] 0])) (bl (!(fI w x))):=by
 have hm:=aaI w W B O x hf hx;refine PC.le ?_;refine dP aaJ ?_;repeat' ((conv=>whnf);first|with_reducible apply aP|((with_reducible apply fk)<;>intro hc<;>try exact aZ)|(apply bA;refine⟨_,aG (hm) ?_,?_⟩;exact bD)|refine aN ?_|fail)
 all_goals exact aM
theorem pQ (l:List Fr)(h:0<l.length)(hb:l.length≤1000000):∃k:Nat,k<l.length∧IntKind.i64.wrap (((l.map Fr.c).length:Int)-1)=((k:Nat):Int)∧(l.map Fr.c)[((k:Nat):Int).toNat]? = some (bH l).c:=by
 obtain⟨k,hk,h1,h2⟩:=F4 l h;refine⟨k,hk,?_,?_⟩
 ·rw[List.length_map,bN (by omega) (by omega)];omega
 rw[h2];exact dR Fr.c l k hk
theorem VX (w:Wr)(qL rb:List (List PV))(hl:w.l.af.length≤1000000):dU prog 82 [.ptr 1 0] ((1,.var (pX w (.pv (cB w.l.af)) (.pv (.sl false 5 qL)) (.pv (.sl false 2 rb)) (.pv fQ)))::[]) (.pv (.agg (bH w.l.af).c)) ((1,.var (pX w (.pv (cB w.l.af)) (.pv (.sl false 5 qL)) (.pv (.sl false 2 rb)) (.pv fQ)))::[]):=by
 by_cases h0:0<w.l.af.length
 ·obtain⟨k,hk,eI,hr⟩:=pQ _ h0 hl;obtain⟨lf,gT⟩:∃lf,bH w.l.af=lf:=⟨_,rfl⟩;rw[gT] at hr ⊢;have d0:decide (((w.l.af.map Fr.c).length:Int)>0)=true:=by simp only[fE,iO];omega
  have hkm:k<(w.l.af.map Fr.c).length:=by rw[List.length_map];exact hk
  clear gT;refine eO lJ ?_;repeat' ((conv=>whnf);first|with_reducible apply aP|((with_reducible apply fk)<;>intro hc<;>try exact aZ)|rewrite[eI]|((refine⟨_,hr,?_⟩))|(((with_reducible apply And.intro);focus (rw[Int.toNat_natCast];exact hkm)))|refine aN ?_|fail)
  refine⟨_,_,⟨rfl,rfl⟩,?_⟩;all_goals exact aM
 have h1:w.l.af=[]:=List.eq_nil_of_length_eq_zero (by omega);rw[h1];rw[pU];have d0:decide ((([]:List Fr).map Fr.c).length>0)=false:=by rfl
 refine eO lJ ?_;repeat' ((conv=>whnf);first|with_reducible apply aP|((with_reducible apply fk)<;>intro hc<;>try exact aZ)|refine aN ?_|fail)
 refine⟨_,_,⟨rfl,rfl⟩,?_⟩;repeat' first|apply And.intro|exact aM|fail
 all_goals try (conv=>whnf)
 all_goals (first|exact rfl|(rw[h1];exact aB _)|skip)
theorem VY (w:Wr)(qL rb:List (List PV))(hl:w.l.af.length≤1000000):dU prog 82 [.ptr 1 0] ((1,.var (pX w (.pv (cB w.l.af)) (.pv (.sl false 5 qL)) (.aO 2 0) (.pv fQ)))::[(2,.arr 27 0 2 rb)]) (.pv (.agg (bH w.l.af).c)) ((1,.var (pX w (.pv (cB w.l.af)) (.pv (.sl false 5 qL)) (.aO 2 0) (.pv fQ)))::[(2,.arr 27 0 2 rb)]):=by
 by_cases h0:0<w.l.af.length
 ·obtain⟨k,hk,eI,hr⟩:=pQ _ h0 hl;obtain⟨lf,gT⟩:∃lf,bH w.l.af=lf:=⟨_,rfl⟩;rw[gT] at hr ⊢;have d0:decide (((w.l.af.map Fr.c).length:Int)>0)=true:=by simp only[fE,iO];omega
  have hkm:k<(w.l.af.map Fr.c).length:=by rw[List.length_map];exact hk
  clear gT;refine eO lJ ?_;repeat' ((conv=>whnf);first|with_reducible apply aP|((with_reducible apply fk)<;>intro hc<;>try exact aZ)|rewrite[eI]|((refine⟨_,hr,?_⟩))|(((with_reducible apply And.intro);focus (rw[Int.toNat_natCast];exact hkm)))|refine aN ?_|fail)
  refine⟨_,_,⟨rfl,rfl⟩,?_⟩;all_goals exact aM
 have h1:w.l.af=[]:=List.eq_nil_of_length_eq_zero (by omega);rw[h1];rw[pU];have d0:decide ((([]:List Fr).map Fr.c).length>0)=false:=by rfl
 refine eO lJ ?_;repeat' ((conv=>whnf);first|with_reducible apply aP|((with_reducible apply fk)<;>intro hc<;>try exact aZ)|refine aN ?_|fail)
 refine⟨_,_,⟨rfl,rfl⟩,?_⟩;repeat' first|apply And.intro|exact aM|fail
 all_goals try (conv=>whnf)
 all_goals (first|exact rfl|(rw[h1];exact aB _)|skip)
theorem VZ (w:Wr)(qL rb ro:List (List PV))(hl:w.l.af.length≤1000000):dU prog 82 [.ptr 1 0] ((1,.var (pX w (.pv (cB w.l.af)) (.aO 2 0) (.aO 3 0) (.aO 4 0)))::[(2,.arr 145 0 5 qL),(3,.arr 27 0 2 rb),(4,.arr 93 0 10 ro)]) (.pv (.agg (bH w.l.af).c)) ((1,.var (pX w (.pv (cB w.l.af)) (.aO 2 0) (.aO 3 0) (.aO 4 0)))::[(2,.arr 145 0 5 qL),(3,.arr 27 0 2 rb),(4,.arr 93 0 10 ro)]):=by
 by_cases h0:0<w.l.af.length
 ·obtain⟨k,hk,eI,hr⟩:=pQ _ h0 hl;obtain⟨lf,gT⟩:∃lf,bH w.l.af=lf:=⟨_,rfl⟩;rw[gT] at hr ⊢;have d0:decide (((w.l.af.map Fr.c).length:Int)>0)=true:=by simp only[fE,iO];omega
  have hkm:k<(w.l.af.map Fr.c).length:=by rw[List.length_map];exact hk
  clear gT;refine eO lJ ?_;repeat' ((conv=>whnf);first|with_reducible apply aP|((with_reducible apply fk)<;>intro hc<;>try exact aZ)|rewrite[eI]|((refine⟨_,hr,?_⟩))|(((with_reducible apply And.intro);focus (rw[Int.toNat_natCast];exact hkm)))|refine aN ?_|fail)
  refine⟨_,_,⟨rfl,rfl⟩,?_⟩;all_goals exact aM
 have h1:w.l.af=[]:=List.eq_nil_of_length_eq_zero (by omega);rw[h1];rw[pU];have d0:decide ((([]:List Fr).map Fr.c).length>0)=false:=by rfl
 refine eO lJ ?_;repeat' ((conv=>whnf);first|with_reducible apply aP|((with_reducible apply fk)<;>intro hc<;>try exact aZ)|refine aN ?_|fail)
 refine⟨_,_,⟨rfl,rfl⟩,?_⟩;repeat' first|apply And.intro|exact aM|fail
 all_goals try (conv=>whnf)
 all_goals (first|exact rfl|(rw[h1];exact aB _)|skip)
theorem V3 (w:Wr)(qL rb:List (List PV))(hl:w.l.af.length≤1000000):dU prog 82 [.ptr 1 0] ((1,.var (pX w (.aO 2 0) (.aO 3 0) (.pv (.sl false 2 rb)) (.pv fQ)))::[(2,.arr 48 0 2 (w.l.af.map Fr.c)),(3,.arr 145 0 5 qL)]) (.pv (.agg (bH w.l.af).c)) ((1,.var (pX w (.aO 2 0) (.aO 3 0) (.pv (.sl false 2 rb)) (.pv fQ)))::[(2,.arr 48 0 2 (w.l.af.map Fr.c)),(3,.arr 145 0 5 qL)]):=by
 by_cases h0:0<w.l.af.length
 ·obtain⟨k,hk,eI,hr⟩:=pQ _ h0 hl;obtain⟨lf,gT⟩:∃lf,bH w.l.af=lf:=⟨_,rfl⟩;rw[gT] at hr ⊢;have d0:decide (((w.l.af.map Fr.c).length:Int)>0)=true:=by simp only[fE,iO];omega
  have hkm:k<(w.l.af.map Fr.c).length:=by rw[List.length_map];exact hk
  clear gT;refine eO lJ ?_;repeat' ((conv=>whnf);first|with_reducible apply aP|((with_reducible apply fk)<;>intro hc<;>try exact aZ)|rewrite[eI]|((refine⟨_,hr,?_⟩))|(((with_reducible apply And.intro);focus (rw[Int.toNat_natCast];exact hkm)))|refine aN ?_|fail)
  refine⟨_,_,⟨rfl,rfl⟩,?_⟩;all_goals exact aM
 have h1:w.l.af=[]:=List.eq_nil_of_length_eq_zero (by omega);rw[h1];rw[pU];have d0:decide ((([]:List Fr).map Fr.c).length>0)=false:=by rfl
 refine eO lJ ?_;repeat' ((conv=>whnf);first|with_reducible apply aP|((with_reducible apply fk)<;>intro hc<;>try exact aZ)|refine aN ?_|fail)
 refine⟨_,_,⟨rfl,rfl⟩,?_⟩;repeat' first|apply And.intro|exact aM|fail
 all_goals try (conv=>whnf)
 all_goals (first|exact rfl|(rw[h1];exact aB _)|skip)
theorem SG:bR prog 78 f78:=fC func78
theorem Dh (is:Pl→Bool):∀(l b:List Pl),l.foldl (fun b x=>if is x && !gY b x then b++[x] else b) b=aD is b l
 |[],b=>rfl
 | p::l,b=>by
   rw[List.foldl_cons,aD];exact Dh is l _
theorem Ak (w:Wr)(is:Pl→Bool):(vB w is).bad=aD is w.bad (bH w.l.af).ah:=Dh is _ _
theorem SH (w:Wr)(qL:List (List PV))(f:FuncId)(row:List PV)(is:Pl→Bool)(hp:∀y,dB prog f ([]++([.agg (Pl.c y)]++[.dL row 0])) (bl (is y)))(hfl:w.l.af.length≤1000000)(hl:w.bad.length≤1000000)(hw:(bH w.l.af).ah.length≤1000) :
  dU prog 78 [.ptr 1 0,.pv (.fn (.func f) [] [.dL row 0])] [(1,.var (pX w (.pv (cB w.l.af)) (.pv (.sl false 5 qL)) (.aO 2 0) (.pv fQ))),(2,.arr 27 0 2 (w.bad.map Pl.c))] (.pv (.cO []))
   [(1,.var (pX w (.pv (cB w.l.af)) (.pv (.sl false 5 qL)) (.aO 1001 0) (.pv fQ))),(2,.dS 1 2 []),(1001,.arr 27 0 2 ((vB w is).bad.map Pl.c))]:=by
 have hla:=VY w qL (w.bad.map Pl.c) hfl;rw[Ak];obtain⟨lf,gT⟩:∃lf,bH w.l.af=lf:=⟨_,rfl⟩;rw[gT] at hw hla ⊢;clear gT hfl;obtain⟨wr,hwr⟩:∃wr,lf.ah=wr:=⟨_,rfl⟩;have aaK:lf.c=[uu lf.first,ax wr]:=by rw[←hwr];rfl
 rw[aaK] at hla;rw[hwr] at hw ⊢;clear hwr aaK;refine nD 2 1777 rfl ?_;show GC _ _ [.ptr 1 0,.pv (.fn (.func f) [] [.dL row 0])] [(1777,.arr 27 0 2 (w.bad.map Pl.c)),(1,.var (pX w (.pv (cB w.l.af)) (.pv (.sl false 5 qL)) (.aO 1777 0) (.pv fQ))),(2,.dS 1 2 [])] _
 refine eO SG ?_;repeat' ((conv=>whnf);first|with_reducible apply aP|((with_reducible apply fk)<;>intro hc<;>try exact aZ)|rewrite[pY]|rewrite[p8]|(apply dn;refine⟨_,_,av (hla) ?_,?_⟩;exact bD)|refine aN ?_|fail)
 refine⟨{k:Nat // k≤wr.length},fun⟨k,_⟩=>⟨[(0,.ptr 1 0),(1,.pv (.fn (.func f) [] [.dL row 0])),(8,.pv (ax wr)),(9,.pv (ii wr.length)),(10,.pv (ii k))],1000000000,[(1,.var (pX w (.pv (cB w.l.af)) (.pv (.sl false 5 qL)) (.aO 1001 0) (.pv fQ))),(2,.dS 1 2 []),(1001,.arr 27 0 2 ((aD is w.bad (wr.take k)).map Pl.c))]⟩,fun⟨k,_⟩=>wr.length-k,⟨⟨0,Nat.zero_le _⟩,aH ?_⟩,?_⟩
 ·repeat' first|apply And.intro|exact aM|fail
  all_goals try (conv=>whnf)
  all_goals simp
 rintro⟨k,hk⟩
 clear hla;by_cases hlt:k<wr.length
 ·have d0:decide ((k:Int)<(wr.length:Int))=true:=by simp only[iO];omega
  have eW:IntKind.i64.wrap ((k:Int)+1)=((k+1:Nat):Int):=by rw[bN (by omega) (by omega)];omega
  have hq:=ql is w.bad wr k hlt;have hq2:(is wr[k] && !(aD is w.bad (wr.take k)).any (· == wr[k]))=false→aD is w.bad (wr.take (k+1))=aD is w.bad (wr.take k):=fun e=>by rw[hq,e];rfl
  have hal:=jZ is (wr.take k) w.bad;have htl:(wr.take k).length≤1000:=by rw[List.length_take];omega
  repeat' ((conv=>whnf);first|with_reducible apply aP|((with_reducible apply fk)<;>intro hc<;>try exact aZ)|((refine⟨_,dR _ _ _ hlt,?_⟩))|(apply bA;refine⟨_,hp _,?_⟩)|(apply bA;refine⟨_,aA _ _ _,?_⟩)|(((with_reducible apply And.intro);focus (simp only[fE,jQ,jR] at *;omega)))|refine aN ?_|fail)
  all_goals
   refine⟨⟨k+1,hlt⟩,dec_lt hlt,aH ?_⟩;repeat' first|apply And.intro|exact aM|fail
   all_goals try (conv=>whnf)
  all_goals
   first
    |exact eW
    | (rw[hq,if_pos (by simp only[Bool.and_eq_true];exact⟨by assumption,by assumption⟩),List.map_append]
       refine bW (aB _) ?_
       (repeat' first|apply And.intro|exact aM|fail);(all_goals try (conv=>whnf)))
    |(rw[hq2 (by rw[show is wr[k]=false from by assumption];rfl)];exact aB _)
    |(rw[hq2 (by rw[show (!(aD is w.bad (List.take k wr)).any fun y=>y==wr[k])=false from by assumption];exact Bool.and_false _)];exact aB _)
 have hke:k=wr.length:=by omega
 subst hke;have d0:decide ((wr.length:Int)<(wr.length:Int))=false:=by simp
 repeat' ((conv=>whnf);first|with_reducible apply aP|((with_reducible apply fk)<;>intro hc<;>try exact aZ)|refine aN ?_|fail)
 refine⟨_,_,⟨rfl,rfl⟩,?_⟩;repeat' first|apply And.intro|exact aM|fail
 all_goals try (conv=>whnf)
 rw[List.take_length];exact aB _
theorem ac6 (w:Wr)(qL ro:List (List PV))(f:FuncId)(row:List PV)(is:Pl→Bool)(hp:∀y,dB prog f ([]++([.agg (Pl.c y)]++[.dL row 0])) (bl (is y)))(hfl:w.l.af.length≤1000000)(hl:w.bad.length≤1000000)(hw:(bH w.l.af).ah.length≤1000) :
  dU prog 78 [.ptr 1 0,.pv (.fn (.func f) [] [.dL row 0])] [(1,.var (pX w (.pv (cB w.l.af)) (.aO 2 0) (.aO 3 0) (.aO 4 0))),(2,.arr 145 0 5 qL),(3,.arr 27 0 2 (w.bad.map Pl.c)),(4,.arr 93 0 10 ro)] (.pv (.cO []))
   [(1,.var (pX w (.pv (cB w.l.af)) (.aO 2 0) (.aO 1001 0) (.aO 4 0))),(2,.arr 145 0 5 qL),(3,.dS 1 2 []),(4,.arr 93 0 10 ro),(1001,.arr 27 0 2 ((vB w is).bad.map Pl.c))]:=by
 have hla:=VZ w qL (w.bad.map Pl.c) ro hfl;rw[Ak];obtain⟨lf,gT⟩:∃lf,bH w.l.af=lf:=⟨_,rfl⟩;rw[gT] at hw hla ⊢;clear gT hfl;obtain⟨wr,hwr⟩:∃wr,lf.ah=wr:=⟨_,rfl⟩;have aaK:lf.c=[uu lf.first,ax wr]:=by rw[←hwr];rfl
 rw[aaK] at hla;rw[hwr] at hw ⊢;clear hwr aaK;refine nD 3 1777 rfl ?_;show GC _ _ [.ptr 1 0,.pv (.fn (.func f) [] [.dL row 0])] [(1777,.arr 27 0 2 (w.bad.map Pl.c)),(1,.var (pX w (.pv (cB w.l.af)) (.aO 2 0) (.aO 1777 0) (.aO 4 0))),(2,.arr 145 0 5 qL),(3,.dS 1 2 []),(4,.arr 93 0 10 ro)] _
 refine eO SG ?_;repeat' ((conv=>whnf);first|with_reducible apply aP|((with_reducible apply fk)<;>intro hc<;>try exact aZ)|rewrite[pY]|rewrite[p8]|(apply dn;refine⟨_,_,av (hla) ?_,?_⟩;exact bD)|refine aN ?_|fail)
 refine⟨{k:Nat // k≤wr.length},fun⟨k,_⟩=>⟨[(0,.ptr 1 0),(1,.pv (.fn (.func f) [] [.dL row 0])),(8,.pv (ax wr)),(9,.pv (ii wr.length)),(10,.pv (ii k))],1000000000,[(1,.var (pX w (.pv (cB w.l.af)) (.aO 2 0) (.aO 1001 0) (.aO 4 0))),(2,.arr 145 0 5 qL),(3,.dS 1 2 []),(4,.arr 93 0 10 ro),(1001,.arr 27 0 2 ((aD is w.bad (wr.take k)).map Pl.c))]⟩,fun⟨k,_⟩=>wr.length-k,⟨⟨0,Nat.zero_le _⟩,aH ?_⟩,?_⟩
 ·repeat' first|apply And.intro|exact aM|fail
  all_goals try (conv=>whnf)
  all_goals simp
 rintro⟨k,hk⟩
 clear hla;by_cases hlt:k<wr.length
 ·have d0:decide ((k:Int)<(wr.length:Int))=true:=by simp only[iO];omega
  have eW:IntKind.i64.wrap ((k:Int)+1)=((k+1:Nat):Int):=by rw[bN (by omega) (by omega)];omega
  have hq:=ql is w.bad wr k hlt;have hq2:(is wr[k] && !(aD is w.bad (wr.take k)).any (· == wr[k]))=false→aD is w.bad (wr.take (k+1))=aD is w.bad (wr.take k):=fun e=>by rw[hq,e];rfl
  have hal:=jZ is (wr.take k) w.bad;have htl:(wr.take k).length≤1000:=by rw[List.length_take];omega
  repeat' ((conv=>whnf);first|with_reducible apply aP|((with_reducible apply fk)<;>intro hc<;>try exact aZ)|((refine⟨_,dR _ _ _ hlt,?_⟩))|(apply bA;refine⟨_,hp _,?_⟩)|(apply bA;refine⟨_,aA _ _ _,?_⟩)|(((with_reducible apply And.intro);focus (simp only[fE,jQ,jR] at *;omega)))|refine aN ?_|fail)
  all_goals
   refine⟨⟨k+1,hlt⟩,dec_lt hlt,aH ?_⟩;repeat' first|apply And.intro|exact aM|fail
   all_goals try (conv=>whnf)
  all_goals
   first
    |exact eW
    | (rw[hq,if_pos (by simp only[Bool.and_eq_true];exact⟨by assumption,by assumption⟩),List.map_append]
       refine bW (aB _) ?_
       (repeat' first|apply And.intro|exact aM|fail);(all_goals try (conv=>whnf)))
    |(rw[hq2 (by rw[show is wr[k]=false from by assumption];rfl)];exact aB _)
    |(rw[hq2 (by rw[show (!(aD is w.bad (List.take k wr)).any fun y=>y==wr[k])=false from by assumption];exact Bool.and_false _)];exact aB _)
 have hke:k=wr.length:=by omega
 subst hke;have d0:decide ((wr.length:Int)<(wr.length:Int))=false:=by simp
 repeat' ((conv=>whnf);first|with_reducible apply aP|((with_reducible apply fk)<;>intro hc<;>try exact aZ)|refine aN ?_|fail)
 refine⟨_,_,⟨rfl,rfl⟩,?_⟩;repeat' first|apply And.intro|exact aM|fail
 all_goals try (conv=>whnf)
 rw[List.take_length];exact aB _
end Go.Proofs.YtfoiekbkkbnpkaaGreat.Tb
end
