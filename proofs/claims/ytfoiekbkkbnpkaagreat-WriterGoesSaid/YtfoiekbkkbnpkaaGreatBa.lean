/-
  Contracts of functions of the program and of the document, each for every input that its premises name.
-/
import Derived.Test.YtfoiekbkkbnpkaaGreatAe
import Derived.Test.YtfoiekbkkbnpkaaGreatChecked
import Derived.KernelRfl
import Derived.Test.YtfoiekbkkbnpkaaGreatAf
set_option linter.unusedSectionVars false
set_option linter.unusedVariables false
set_option linter.unusedSimpArgs false
set_option maxRecDepth 100000
set_option maxHeartbeats 4000000
set_option linter.unnecessarySimpa false
section
open Go Go.Proofs.Tryz Go.AX
namespace Go.Proofs.YtfoiekbkkbnpkaaGreat.Tb
def i3:TI:=⟨1,8,[.int .i64 0],.uN .i64,none⟩
theorem o3:bH prog 3 i3:=⟨by kernel_rfl,by kernel_rfl,rfl,by kernel_rfl,(fun _=>rfl),by kernel_rfl,(fun ks h=>(by cases h))⟩
def i4:TI:=⟨1,1,[.bool false],.RZ,none⟩
theorem o4:bH prog 4 i4:=⟨by kernel_rfl,by kernel_rfl,rfl,by kernel_rfl,(fun _=>rfl),by kernel_rfl,(fun ks h=>(by cases h))⟩
def i5:TI:=⟨1,1,[.int .u8 0],.uN .u8,none⟩
theorem o5:bH prog 5 i5:=⟨by kernel_rfl,by kernel_rfl,rfl,by kernel_rfl,(fun _=>rfl),by kernel_rfl,(fun ks h=>(by cases h))⟩
def i9:TI:=⟨1,16,[.string ByteArray.empty],.GY,none⟩
theorem o9:bH prog 9 i9:=⟨by kernel_rfl,by kernel_rfl,rfl,by kernel_rfl,(fun _=>rfl),by kernel_rfl,(fun ks h=>(by cases h))⟩
def i22:TI:=⟨1,8,[.int .u64 0],.uN .u64,none⟩
theorem o22:bH prog 22 i22:=⟨by kernel_rfl,by kernel_rfl,rfl,by kernel_rfl,(fun _=>rfl),by kernel_rfl,(fun ks h=>(by cases h))⟩
def i23:TI:=⟨1,24,[.slice none 0 0],.slt 48,none⟩
theorem o23:bH prog 23 i23:=⟨by kernel_rfl,by kernel_rfl,rfl,by kernel_rfl,(fun _=>rfl),by kernel_rfl,(fun ks h=>(by cases h))⟩
def i25:TI:=⟨6,64,[.int .u64 0,.int .i64 0,.int .i64 0,.slice none 0 0,.int .i64 0,.int .u64 0],.str [(0,22),(1,3),(2,3),(3,23),(4,3),(5,22)],none⟩
theorem o25:bH prog 25 i25:=⟨by kernel_rfl,by kernel_rfl,rfl,by kernel_rfl,(fun h=>(by cases h)),by kernel_rfl,(fun ks h=>(by cases h))⟩
def i27:TI:=⟨2,16,[.int .i64 0,.int .u64 0],.str [(0,3),(1,22)],some [.int .i64,.int .u64]⟩
theorem o27:bH prog 27 i27:=⟨by kernel_rfl,by kernel_rfl,rfl,by kernel_rfl,(fun h=>(by cases h)),by kernel_rfl,(fun ks h=>(by cases h;exact⟨fH (by kernel_rfl) (by kernel_rfl),(by kernel_rfl)⟩))⟩
def i28:TI:=⟨1,24,[.slice none 0 0],.slt 27,none⟩
theorem o28:bH prog 28 i28:=⟨by kernel_rfl,by kernel_rfl,rfl,by kernel_rfl,(fun _=>rfl),by kernel_rfl,(fun ks h=>(by cases h))⟩
def i29:TI:=⟨1,24,[.slice none 0 0],.slt 5,none⟩
theorem o29:bH prog 29 i29:=⟨by kernel_rfl,by kernel_rfl,rfl,by kernel_rfl,(fun _=>rfl),by kernel_rfl,(fun ks h=>(by cases h))⟩
def i31:TI:=⟨16,176,[.int .u64 0,.int .i64 0,.int .i64 0,.slice none 0 0,.int .i64 0,.int .u64 0,.int .i64 0,.int .u64 0,.int .i64 0,.int .u64 0,.int .i64 0,.int .u64 0,.slice none 0 0,.slice none 0 0,.int .u64 0,.int .u64 0],.str [(0,25),(6,27),(8,27),(10,3),(11,22),(12,28),(13,29),(14,22),(15,22)],none⟩
theorem o31:bH prog 31 i31:=⟨by kernel_rfl,by kernel_rfl,rfl,by kernel_rfl,(fun h=>(by cases h)),by kernel_rfl,(fun ks h=>(by cases h))⟩
def i33:TI:=⟨9,88,[.int .i64 0,.int .u64 0,.int .i64 0,.int .i64 0,.int .u64 0,.int .u64 0,.int .u64 0,.int .u64 0,.slice none 0 0],.str [(0,27),(2,3),(3,3),(4,22),(5,22),(6,22),(7,22),(8,29)],none⟩
theorem o33:bH prog 33 i33:=⟨by kernel_rfl,by kernel_rfl,rfl,by kernel_rfl,(fun h=>(by cases h)),by kernel_rfl,(fun ks h=>(by cases h))⟩
def i38:TI:=⟨1,24,[.slice none 0 0],.slt 93,none⟩
theorem o38:bH prog 38 i38:=⟨by kernel_rfl,by kernel_rfl,rfl,by kernel_rfl,(fun _=>rfl),by kernel_rfl,(fun ks h=>(by cases h))⟩
def i44:TI:=⟨1,24,[.slice none 0 0],.slt 63,none⟩
theorem o44:bH prog 44 i44:=⟨by kernel_rfl,by kernel_rfl,rfl,by kernel_rfl,(fun _=>rfl),by kernel_rfl,(fun ks h=>(by cases h))⟩
def i46:TI:=⟨1,24,[.slice none 0 0],.slt 145,none⟩
theorem o46:bH prog 46 i46:=⟨by kernel_rfl,by kernel_rfl,rfl,by kernel_rfl,(fun _=>rfl),by kernel_rfl,(fun ks h=>(by cases h))⟩
def i48:TI:=⟨2,32,[.int .u64 0,.slice none 0 0],.str [(0,22),(1,28)],none⟩
theorem o48:bH prog 48 i48:=⟨by kernel_rfl,by kernel_rfl,rfl,by kernel_rfl,(fun h=>(by cases h)),by kernel_rfl,(fun ks h=>(by cases h))⟩
def i50:TI:=⟨14,176,[.int .u64 0,.int .i64 0,.int .i64 0,.slice none 0 0,.int .i64 0,.int .u64 0,.int .u64 0,.int .u64 0,.int .u64 0,.slice none 0 0,.slice none 0 0,.int .u64 0,.slice none 0 0,.int .i64 0],.str [(0,25),(6,22),(7,22),(8,22),(9,46),(10,28),(11,48),(13,3)],none⟩
theorem o50:bH prog 50 i50:=⟨by kernel_rfl,by kernel_rfl,rfl,by kernel_rfl,(fun h=>(by cases h)),by kernel_rfl,(fun ks h=>(by cases h))⟩
def i51:TI:=⟨1,8,[.int .i64 0],.uN .i64,none⟩
theorem o51:bH prog 51 i51:=⟨by kernel_rfl,by kernel_rfl,rfl,by kernel_rfl,(fun _=>rfl),by kernel_rfl,(fun ks h=>(by cases h))⟩
def i55:TI:=⟨1,8,[.pointer none],.Dh 61,none⟩
theorem o55:bH prog 55 i55:=⟨by kernel_rfl,by kernel_rfl,rfl,by kernel_rfl,(fun _=>rfl),by kernel_rfl,(fun ks h=>(by cases h))⟩
def i57:TI:=⟨1,24,[.slice none 0 0],.slt 136,none⟩
theorem o57:bH prog 57 i57:=⟨by kernel_rfl,by kernel_rfl,rfl,by kernel_rfl,(fun _=>rfl),by kernel_rfl,(fun ks h=>(by cases h))⟩
def i58:TI:=⟨1,24,[.slice none 0 0],.slt 140,none⟩
theorem o58:bH prog 58 i58:=⟨by kernel_rfl,by kernel_rfl,rfl,by kernel_rfl,(fun _=>rfl),by kernel_rfl,(fun ks h=>(by cases h))⟩
def i59:TI:=⟨1,24,[.slice none 0 0],.slt 9,none⟩
theorem o59:bH prog 59 i59:=⟨by kernel_rfl,by kernel_rfl,rfl,by kernel_rfl,(fun _=>rfl),by kernel_rfl,(fun ks h=>(by cases h))⟩
def i61:TI:=⟨22,320,[.int .u64 0,.int .i64 0,.int .i64 0,.slice none 0 0,.int .i64 0,.int .u64 0,.int .u64 0,.int .u64 0,.int .u64 0,.slice none 0 0,.slice none 0 0,.int .u64 0,.slice none 0 0,.int .i64 0,.slice none 0 0,.int .u64 0,.slice none 0 0,.int .i64 0,.int .u64 0,.slice none 0 0,.slice none 0 0,.slice none 0 0],.str [(0,50),(14,23),(15,48),(17,3),(18,22),(19,57),(20,58),(21,59)],none⟩
theorem o61:bH prog 61 i61:=⟨by kernel_rfl,by kernel_rfl,rfl,by kernel_rfl,(fun h=>(by cases h)),by kernel_rfl,(fun ks h=>(by cases h))⟩
def i63:TI:=⟨8,96,[.int .i64 0,.int .i64 0,.int .i64 0,.int .i64 0,.int .i64 0,.int .i64 0,.slice none 0 0,.slice none 0 0],.str [(0,3),(1,3),(2,3),(3,3),(4,3),(5,3),(6,29),(7,28)],none⟩
theorem o63:bH prog 63 i63:=⟨by kernel_rfl,by kernel_rfl,rfl,by kernel_rfl,(fun h=>(by cases h)),by kernel_rfl,(fun ks h=>(by cases h))⟩
def i75:TI:=⟨1,24,[.slice none 0 0],.slt 81,none⟩
theorem o75:bH prog 75 i75:=⟨by kernel_rfl,by kernel_rfl,rfl,by kernel_rfl,(fun _=>rfl),by kernel_rfl,(fun ks h=>(by cases h))⟩
def i77:TI:=⟨1,8,[.pointer none],.Dh 89,none⟩
theorem o77:bH prog 77 i77:=⟨by kernel_rfl,by kernel_rfl,rfl,by kernel_rfl,(fun _=>rfl),by kernel_rfl,(fun ks h=>(by cases h))⟩
def i81:TI:=⟨7,88,[.int .i64 0,.int .i64 0,.int .i64 0,.int .i64 0,.int .i64 0,.slice none 0 0,.slice none 0 0],.str [(0,3),(1,3),(2,3),(3,3),(4,3),(5,29),(6,28)],none⟩
theorem o81:bH prog 81 i81:=⟨by kernel_rfl,by kernel_rfl,rfl,by kernel_rfl,(fun h=>(by cases h)),by kernel_rfl,(fun ks h=>(by cases h))⟩
def i84:TI:=⟨18,256,[.int .u64 0,.int .i64 0,.int .i64 0,.slice none 0 0,.int .i64 0,.int .u64 0,.int .u64 0,.int .i64 0,.slice none 0 0,.int .u64 0,.int .u64 0,.slice none 0 0,.slice none 0 0,.slice none 0 0,.slice none 0 0,.slice none 0 0,.int .u64 0,.int .u64 0],.str [(0,25),(6,22),(7,3),(8,28),(9,22),(10,22),(11,28),(12,28),(13,29),(14,23),(15,28),(16,22),(17,22)],none⟩
theorem o84:bH prog 84 i84:=⟨by kernel_rfl,by kernel_rfl,rfl,by kernel_rfl,(fun h=>(by cases h)),by kernel_rfl,(fun ks h=>(by cases h))⟩
def i85:TI:=⟨1,24,[.slice none 0 0],.slt 95,none⟩
theorem o85:bH prog 85 i85:=⟨by kernel_rfl,by kernel_rfl,rfl,by kernel_rfl,(fun _=>rfl),by kernel_rfl,(fun ks h=>(by cases h))⟩
def i86:TI:=⟨1,24,[.slice none 0 0],.slt 202,none⟩
theorem o86:bH prog 86 i86:=⟨by kernel_rfl,by kernel_rfl,rfl,by kernel_rfl,(fun _=>rfl),by kernel_rfl,(fun ks h=>(by cases h))⟩
def i87:TI:=⟨1,24,[.slice none 0 0],.slt 221,none⟩
theorem o87:bH prog 87 i87:=⟨by kernel_rfl,by kernel_rfl,rfl,by kernel_rfl,(fun _=>rfl),by kernel_rfl,(fun ks h=>(by cases h))⟩
def i89:TI:=⟨49,680,[.int .u64 0,.int .i64 0,.int .i64 0,.slice none 0 0,.int .i64 0,.int .u64 0,.int .u64 0,.int .i64 0,.int .i64 0,.slice none 0 0,.int .i64 0,.int .u64 0,.int .u64 0,.int .u64 0,.int .u64 0,.slice none 0 0,.slice none 0 0,.int .u64 0,.slice none 0 0,.int .i64 0,.int .u64 0,.int .i64 0,.int .i64 0,.slice none 0 0,.int .i64 0,.int .u64 0,.int .u64 0,.int .i64 0,.slice none 0 0,.int .u64 0,.int .u64 0,.slice none 0 0,.slice none 0 0,.slice none 0 0,.slice none 0 0,.slice none 0 0,.int .u64 0,.int .u64 0,.int .u64 0,.int .u64 0,.int .u64 0,.slice none 0 0,.bool false,.int .u64 0,.slice none 0 0,.slice none 0 0,.slice none 0 0,.slice none 0 0,.slice none 0 0],.str [(0,25),(6,50),(20,84),(38,22),(39,22),(40,48),(42,4),(43,22),(44,85),(45,86),(46,86),(47,87),(48,59)],none⟩
theorem o89:bH prog 89 i89:=⟨by kernel_rfl,by kernel_rfl,rfl,by kernel_rfl,(fun h=>(by cases h)),by kernel_rfl,(fun ks h=>(by cases h))⟩
def i91:TI:=⟨1,24,[.slice none 0 0],.slt 22,none⟩
theorem o91:bH prog 91 i91:=⟨by kernel_rfl,by kernel_rfl,rfl,by kernel_rfl,(fun _=>rfl),by kernel_rfl,(fun ks h=>(by cases h))⟩
def i93:TI:=⟨10,112,[.int .i64 0,.int .u64 0,.int .i64 0,.int .u64 0,.int .u64 0,.int .u64 0,.int .u64 0,.int .i64 0,.slice none 0 0,.slice none 0 0],.str [(0,27),(2,3),(3,22),(4,22),(5,22),(6,22),(7,3),(8,29),(9,91)],none⟩
theorem o93:bH prog 93 i93:=⟨by kernel_rfl,by kernel_rfl,rfl,by kernel_rfl,(fun h=>(by cases h)),by kernel_rfl,(fun ks h=>(by cases h))⟩
def i95:TI:=⟨21,216,[.bool false,.int .u64 0,.int .i64 0,.int .u64 0,.int .i64 0,.int .u64 0,.int .u64 0,.int .u64 0,.int .u64 0,.int .i64 0,.slice none 0 0,.slice none 0 0,.int .i64 0,.int .u64 0,.int .i64 0,.int .i64 0,.int .u64 0,.int .u64 0,.int .u64 0,.int .u64 0,.slice none 0 0],.str [(0,4),(1,22),(2,93),(12,33)],none⟩
theorem o95:bH prog 95 i95:=⟨by kernel_rfl,by kernel_rfl,rfl,by kernel_rfl,(fun h=>(by cases h)),by kernel_rfl,(fun ks h=>(by cases h))⟩
def abG:TI:=⟨1,24,[.slice none 0 0],.slt 25,none⟩
theorem aek:bH prog 104 abG:=⟨by kernel_rfl,by kernel_rfl,rfl,by kernel_rfl,(fun _=>rfl),by kernel_rfl,(fun ks h=>(by cases h))⟩
def i105:TI:=⟨1,24,[.slice none 0 0],.slt 274,none⟩
theorem ael:bH prog 105 i105:=⟨by kernel_rfl,by kernel_rfl,rfl,by kernel_rfl,(fun _=>rfl),by kernel_rfl,(fun ks h=>(by cases h))⟩
def abH:TI:=⟨1,24,[.slice none 0 0],.slt 278,none⟩
theorem aem:bH prog 106 abH:=⟨by kernel_rfl,by kernel_rfl,rfl,by kernel_rfl,(fun _=>rfl),by kernel_rfl,(fun ks h=>(by cases h))⟩
def abI:TI:=⟨5,88,[.int .u64 0,.int .u64 0,.slice none 0 0,.slice none 0 0,.slice none 0 0],.str [(0,22),(1,22),(2,105),(3,104),(4,106)],none⟩
theorem aen:bH prog 108 abI:=⟨by kernel_rfl,by kernel_rfl,rfl,by kernel_rfl,(fun h=>(by cases h)),by kernel_rfl,(fun ks h=>(by cases h))⟩
def abJ:TI:=⟨1,8,[.nilFunc],.Ac,none⟩
theorem aeo:bH prog 115 abJ:=⟨by kernel_rfl,by kernel_rfl,rfl,by kernel_rfl,(fun _=>rfl),by kernel_rfl,(fun ks h=>(by cases h))⟩
def abK:TI:=⟨1,8,[.pointer none],.Dh 31,none⟩
theorem aep:bH prog 121 abK:=⟨by kernel_rfl,by kernel_rfl,rfl,by kernel_rfl,(fun _=>rfl),by kernel_rfl,(fun ks h=>(by cases h))⟩
def i130:TI:=⟨15,200,[.int .u64 0,.int .i64 0,.int .i64 0,.slice none 0 0,.int .i64 0,.int .u64 0,.int .u64 0,.int .u64 0,.int .u64 0,.slice none 0 0,.slice none 0 0,.int .u64 0,.slice none 0 0,.int .i64 0,.slice none 0 0],.str [(0,50),(14,38)],none⟩
theorem aer:bH prog 130 i130:=⟨by kernel_rfl,by kernel_rfl,rfl,by kernel_rfl,(fun h=>(by cases h)),by kernel_rfl,(fun ks h=>(by cases h))⟩
def i131:TI:=⟨1,8,[.pointer none],.Dh 130,none⟩
theorem aes:bH prog 131 i131:=⟨by kernel_rfl,by kernel_rfl,rfl,by kernel_rfl,(fun _=>rfl),by kernel_rfl,(fun ks h=>(by cases h))⟩
def abL:TI:=⟨20,208,[.bool false,.int .i64 0,.int .u64 0,.int .i64 0,.int .u64 0,.int .u64 0,.int .u64 0,.int .u64 0,.int .i64 0,.slice none 0 0,.slice none 0 0,.int .i64 0,.int .u64 0,.int .i64 0,.int .i64 0,.int .u64 0,.int .u64 0,.int .u64 0,.int .u64 0,.slice none 0 0],.str [(0,4),(1,93),(11,33)],none⟩
theorem aeu:bH prog 136 abL:=⟨by kernel_rfl,by kernel_rfl,rfl,by kernel_rfl,(fun h=>(by cases h)),by kernel_rfl,(fun ks h=>(by cases h))⟩
def abM:TI:=⟨4,40,[.int .i64 0,.int .u64 0,.int .u64 0,.string ByteArray.empty],.str [(0,27),(2,22),(3,9)],some [.int .i64,.int .u64,.int .u64,.str]⟩
theorem aev:bH prog 140 abM:=⟨by kernel_rfl,by kernel_rfl,rfl,by kernel_rfl,(fun h=>(by cases h)),by kernel_rfl,(fun ks h=>(by cases h;exact⟨fH (by kernel_rfl) (by kernel_rfl),(by kernel_rfl)⟩))⟩
def abN:TI:=⟨1,8,[.nilFunc],.Ac,none⟩
theorem aew:bH prog 142 abN:=⟨by kernel_rfl,by kernel_rfl,rfl,by kernel_rfl,(fun _=>rfl),by kernel_rfl,(fun ks h=>(by cases h))⟩
def i143:TI:=⟨1,8,[.pointer none],.Dh 145,none⟩
theorem aex:bH prog 143 i143:=⟨by kernel_rfl,by kernel_rfl,rfl,by kernel_rfl,(fun _=>rfl),by kernel_rfl,(fun ks h=>(by cases h))⟩
def i145:TI:=⟨5,72,[.int .u64 0,.slice none 0 0,.slice none 0 0,.int .u64 0,.int .u64 0],.str [(0,22),(1,29),(2,28),(3,22),(4,22)],none⟩
theorem aey:bH prog 145 i145:=⟨by kernel_rfl,by kernel_rfl,rfl,by kernel_rfl,(fun h=>(by cases h)),by kernel_rfl,(fun ks h=>(by cases h))⟩
def abO:TI:=⟨1,8,[.nilFunc],.Ac,none⟩
theorem aez:bH prog 153 abO:=⟨by kernel_rfl,by kernel_rfl,rfl,by kernel_rfl,(fun _=>rfl),by kernel_rfl,(fun ks h=>(by cases h))⟩
def abP:TI:=⟨1,8,[.nilFunc],.Ac,none⟩
theorem aeA:bH prog 166 abP:=⟨by kernel_rfl,by kernel_rfl,rfl,by kernel_rfl,(fun _=>rfl),by kernel_rfl,(fun ks h=>(by cases h))⟩
def abQ:TI:=⟨1,8,[.nilFunc],.Ac,none⟩
theorem aeB:bH prog 177 abQ:=⟨by kernel_rfl,by kernel_rfl,rfl,by kernel_rfl,(fun _=>rfl),by kernel_rfl,(fun ks h=>(by cases h))⟩
def i182:TI:=⟨1,8,[.nilFunc],.Ac,none⟩
theorem aeC:bH prog 182 i182:=⟨by kernel_rfl,by kernel_rfl,rfl,by kernel_rfl,(fun _=>rfl),by kernel_rfl,(fun ks h=>(by cases h))⟩
def abR:TI:=⟨1,24,[.slice none 0 0],.slt 145,none⟩
theorem aeD:bH prog 187 abR:=⟨by kernel_rfl,by kernel_rfl,rfl,by kernel_rfl,(fun _=>rfl),by kernel_rfl,(fun ks h=>(by cases h))⟩
def abS:TI:=⟨1,8,[.pointer none],.Dh 195,none⟩
theorem aeE:bH prog 191 abS:=⟨by kernel_rfl,by kernel_rfl,rfl,by kernel_rfl,(fun _=>rfl),by kernel_rfl,(fun ks h=>(by cases h))⟩
def abT:TI:=⟨19,280,[.int .u64 0,.int .i64 0,.int .i64 0,.slice none 0 0,.int .i64 0,.int .u64 0,.int .u64 0,.int .i64 0,.slice none 0 0,.int .u64 0,.int .u64 0,.slice none 0 0,.slice none 0 0,.slice none 0 0,.slice none 0 0,.slice none 0 0,.int .u64 0,.int .u64 0,.slice none 0 0],.str [(0,84),(18,38)],none⟩
theorem aeF:bH prog 195 abT:=⟨by kernel_rfl,by kernel_rfl,rfl,by kernel_rfl,(fun h=>(by cases h)),by kernel_rfl,(fun ks h=>(by cases h))⟩
def abU:TI:=⟨4,40,[.int .i64 0,.int .u64 0,.int .u64 0,.string ByteArray.empty],.str [(0,27),(2,22),(3,9)],some [.int .i64,.int .u64,.int .u64,.str]⟩
theorem aeG:bH prog 202 abU:=⟨by kernel_rfl,by kernel_rfl,rfl,by kernel_rfl,(fun h=>(by cases h)),by kernel_rfl,(fun ks h=>(by cases h;exact⟨fH (by kernel_rfl) (by kernel_rfl),(by kernel_rfl)⟩))⟩
def abV:TI:=⟨1,8,[.nilFunc],.Ac,none⟩
theorem aeH:bH prog 207 abV:=⟨by kernel_rfl,by kernel_rfl,rfl,by kernel_rfl,(fun _=>rfl),by kernel_rfl,(fun ks h=>(by cases h))⟩
def i210:TI:=⟨1,8,[.nilFunc],.Ac,none⟩
theorem aeI:bH prog 210 i210:=⟨by kernel_rfl,by kernel_rfl,rfl,by kernel_rfl,(fun _=>rfl),by kernel_rfl,(fun ks h=>(by cases h))⟩
def abW:TI:=⟨4,32,[.int .i64 0,.int .u64 0,.int .u64 0,.int .u64 0],.str [(0,27),(2,22),(3,22)],some [.int .i64,.int .u64,.int .u64,.int .u64]⟩
theorem aeJ:bH prog 221 abW:=⟨by kernel_rfl,by kernel_rfl,rfl,by kernel_rfl,(fun h=>(by cases h)),by kernel_rfl,(fun ks h=>(by cases h;exact⟨fH (by kernel_rfl) (by kernel_rfl),(by kernel_rfl)⟩))⟩
def i226:TI:=⟨1,8,[.nilFunc],.Ac,none⟩
theorem aeK:bH prog 226 i226:=⟨by kernel_rfl,by kernel_rfl,rfl,by kernel_rfl,(fun _=>rfl),by kernel_rfl,(fun ks h=>(by cases h))⟩
def i228:TI:=⟨1,8,[.nilFunc],.Ac,none⟩
theorem aeL:bH prog 228 i228:=⟨by kernel_rfl,by kernel_rfl,rfl,by kernel_rfl,(fun _=>rfl),by kernel_rfl,(fun ks h=>(by cases h))⟩
def i234:TI:=⟨1,8,[.int .u64 0],.uN .u64,none⟩
theorem aeM:bH prog 234 i234:=⟨by kernel_rfl,by kernel_rfl,rfl,by kernel_rfl,(fun _=>rfl),by kernel_rfl,(fun ks h=>(by cases h))⟩
def abX:TI:=⟨1,8,[.int .i64 0],.uN .i64,none⟩
theorem aeN:bH prog 237 abX:=⟨by kernel_rfl,by kernel_rfl,rfl,by kernel_rfl,(fun _=>rfl),by kernel_rfl,(fun ks h=>(by cases h))⟩
def abY:TI:=⟨1,4,[.int .u32 0],.uN .u32,none⟩
theorem aeO:bH prog 245 abY:=⟨by kernel_rfl,by kernel_rfl,rfl,by kernel_rfl,(fun _=>rfl),by kernel_rfl,(fun ks h=>(by cases h))⟩
def abZ:TI:=⟨1,8,[.int .u64 0],.uN .u64,none⟩
theorem aeP:bH prog 247 abZ:=⟨by kernel_rfl,by kernel_rfl,rfl,by kernel_rfl,(fun _=>rfl),by kernel_rfl,(fun ks h=>(by cases h))⟩
def ab0:TI:=⟨1,8,[.pointer none],.Dh 3,none⟩
theorem aeQ:bH prog 251 ab0:=⟨by kernel_rfl,by kernel_rfl,rfl,by kernel_rfl,(fun _=>rfl),by kernel_rfl,(fun ks h=>(by cases h))⟩
def ab1:TI:=⟨1,24,[.slice none 0 0],.slt 281,none⟩
theorem aeR:bH prog 271 ab1:=⟨by kernel_rfl,by kernel_rfl,rfl,by kernel_rfl,(fun _=>rfl),by kernel_rfl,(fun ks h=>(by cases h))⟩
def ab2:TI:=⟨1,24,[.slice none 0 0],.slt 283,none⟩
theorem aeS:bH prog 272 ab2:=⟨by kernel_rfl,by kernel_rfl,rfl,by kernel_rfl,(fun _=>rfl),by kernel_rfl,(fun ks h=>(by cases h))⟩
def ab3:TI:=⟨9,120,[.int .u64 0,.int .i64 0,.int .u64 0,.int .u64 0,.int .u64 0,.int .u64 0,.slice none 0 0,.slice none 0 0,.slice none 0 0],.str [(0,22),(1,3),(2,22),(3,22),(4,22),(5,22),(6,91),(7,271),(8,272)],none⟩
theorem aeT:bH prog 274 ab3:=⟨by kernel_rfl,by kernel_rfl,rfl,by kernel_rfl,(fun h=>(by cases h)),by kernel_rfl,(fun ks h=>(by cases h))⟩
def ab4:TI:=⟨5,40,[.int .i64 0,.int .u64 0,.int .u64 0,.int .u64 0,.int .i64 0],.str [(0,51),(1,22),(2,22),(3,22),(4,3)],some [.int .i64,.int .u64,.int .u64,.int .u64,.int .i64]⟩
theorem aeU:bH prog 276 ab4:=⟨by kernel_rfl,by kernel_rfl,rfl,by kernel_rfl,(fun h=>(by cases h)),by kernel_rfl,(fun ks h=>(by cases h;exact⟨fH (by kernel_rfl) (by kernel_rfl),(by kernel_rfl)⟩))⟩
def ab5:TI:=⟨8,64,[.int .i64 0,.int .u64 0,.int .u64 0,.int .i64 0,.int .u64 0,.int .u64 0,.int .u64 0,.int .i64 0],.str [(0,3),(1,22),(2,22),(3,276)],some [.int .i64,.int .u64,.int .u64,.int .i64,.int .u64,.int .u64,.int .u64,.int .i64]⟩
theorem aeV:bH prog 278 ab5:=⟨by kernel_rfl,by kernel_rfl,rfl,by kernel_rfl,(fun h=>(by cases h)),by kernel_rfl,(fun ks h=>(by cases h;exact⟨fH (by kernel_rfl) (by kernel_rfl),(by kernel_rfl)⟩))⟩
def ab6:TI:=⟨3,24,[.int .i64 0,.int .u64 0,.int .u64 0],.str [(0,3),(1,22),(2,22)],some [.int .i64,.int .u64,.int .u64]⟩
theorem aeW:bH prog 281 ab6:=⟨by kernel_rfl,by kernel_rfl,rfl,by kernel_rfl,(fun h=>(by cases h)),by kernel_rfl,(fun ks h=>(by cases h;exact⟨fH (by kernel_rfl) (by kernel_rfl),(by kernel_rfl)⟩))⟩
def ab7:TI:=⟨2,16,[.int .i64 0,.int .u64 0],.str [(0,3),(1,22)],some [.int .i64,.int .u64]⟩
theorem aeX:bH prog 283 ab7:=⟨by kernel_rfl,by kernel_rfl,rfl,by kernel_rfl,(fun h=>(by cases h)),by kernel_rfl,(fun ks h=>(by cases h;exact⟨fH (by kernel_rfl) (by kernel_rfl),(by kernel_rfl)⟩))⟩
def tab:Tab:=[(3,i3),(4,i4),(5,i5),(9,i9),(22,i22),(23,i23),(25,i25),(27,i27),(28,i28),(29,i29),(31,i31),(33,i33),(38,i38),(44,i44),(46,i46),(48,i48),(50,i50),(51,i51),(55,i55),(57,i57),(58,i58),(59,i59),(61,i61),(63,i63),(75,i75),(77,i77),(81,i81),(84,i84),(85,i85),(86,i86),(87,i87),(89,i89),(91,i91),(93,i93),(95,i95),(104,abG),(105,i105),(106,abH),(108,abI),(115,abJ),(121,abK),(130,i130),(131,i131),(136,abL),(140,abM),(142,abN),(143,i143),(145,i145),(153,abO),(166,abP),(177,abQ),(182,i182),(187,abR),(191,abS),(195,abT),(202,abU),(207,abV),(210,i210),(221,abW),(226,i226),(228,i228),(234,i234),(237,abX),(245,abY),(247,abZ),(251,ab0),(271,ab1),(272,ab2),(274,ab3),(276,ab4),(278,ab5),(281,ab6),(283,ab7)]
theorem nR:bA prog tab:=Du (by
 intro x hx;simp only[tab,List.mem_cons,List.mem_nil_iff,or_false] at hx;rcases hx with rfl|rfl|rfl|rfl|rfl|rfl|rfl|rfl|rfl|rfl|rfl|rfl|rfl|rfl|rfl|rfl|rfl|rfl|rfl|rfl|rfl|rfl|rfl|rfl|rfl|rfl|rfl|rfl|rfl|rfl|rfl|rfl|rfl|rfl|rfl|rfl|rfl|rfl|rfl|rfl|rfl|rfl|rfl|rfl|rfl|rfl|rfl|rfl|rfl|rfl|rfl|rfl|rfl|rfl|rfl|rfl|rfl|rfl|rfl|rfl|rfl|rfl|rfl|rfl|rfl|rfl|rfl|rfl|rfl|rfl|rfl|rfl|rfl
 ·exact o3
 ·exact o4
 ·exact o5
 ·exact o9
 ·exact o22
 ·exact o23
 ·exact o25
 ·exact o27
 ·exact o28
 ·exact o29
 ·exact o31
 ·exact o33
 ·exact o38
 ·exact o44
 ·exact o46
 ·exact o48
 ·exact o50
 ·exact o51
 ·exact o55
 ·exact o57
 ·exact o58
 ·exact o59
 ·exact o61
 ·exact o63
 ·exact o75
 ·exact o77
 ·exact o81
 ·exact o84
 ·exact o85
 ·exact o86
 ·exact o87
 ·exact o89
 ·exact o91
 ·exact o93
 ·exact o95
 ·exact aek
 ·exact ael
 ·exact aem
 ·exact aen
 ·exact aeo
 ·exact aep
 ·exact aer
 ·exact aes
 ·exact aeu
 ·exact aev
 ·exact aew
 ·exact aex
 ·exact aey
 ·exact aez
 ·exact aeA
 ·exact aeB
 ·exact aeC
 ·exact aeD
 ·exact aeE
 ·exact aeF
 ·exact aeG
 ·exact aeH
 ·exact aeI
 ·exact aeJ
 ·exact aeK
 ·exact aeL
 ·exact aeM
 ·exact aeN
 ·exact aeO
 ·exact aeP
 ·exact aeQ
 ·exact aeR
 ·exact aeS
 ·exact aeT
 ·exact aeU
 ·exact aeV
 ·exact aeW
 exact aeX)
theorem mixed:prog.follows .mixedOrders=true:=by kernel_rfl
theorem dW {f:FuncId}{fn:Func}(hf:bG prog f fn){args:List PV}{Q:PV→Prop}(h:X5 args fun s=>VC prog tab (codeOf fn) s (fnK tab fn.results.toList Q))(hl:Nat.ble args.length fn.ntmps=true:=by rfl):PC prog f args Q:=Q6 nR (jU mixed nR) hf hl h
theorem nD {f:FuncId}{fn:Func}(hf:bG prog f fn){args:List AV}{hp:List (Nat×au)}{Q:AV→List (Nat×au)→Prop}(h:Q8 args hp fun s=>VC prog tab (codeOf fn) s (fnG tab fn.results.toList Q))(hl:Nat.ble args.length fn.ntmps=true:=by rfl):GC prog f args hp Q:=wm nR (jU mixed nR) hf hl h
theorem uG:bG prog 107 f107:=fF func107
theorem qC (l:List Pl)(a b:Int):dP prog 107 [dO l,.agg [ii a,uu b]] (ii (qZ (fun y=>y==⟨a,b⟩) l)):=by
 refine PC.le (nL uG fun hb=>?_);have hb:l.length≤9223372036854775807:=by simpa[F6,Ar,dO] using hb
 refine dW uG ?_;repeat' ((conv=>whnf);first|with_reducible apply aQ|((with_reducible refine (⟨fun h=>?_,fun h=>?_⟩:(_=true→_)∧(_=false→_)))<;>first|exact absurd h (by decide)|(exfalso;simp only[*,reduceCtorEq] at h;done)|skip)|refine aM ?_|fail)
 refine⟨{k:Nat // k≤l.length∧∀j (hj:j<l.length),j<k→(l[j]==⟨a,b⟩)=false},fun⟨k,_⟩=>⟨[(0,.pv (dO l)),(3,.ptr 1003 0),(7,.pv (ii l.length)),(8,.pv (ii k))],1000000000,[(1003,.var [.pv (ii a),.pv (uu b)])]⟩,fun⟨k,_⟩=>l.length-k,⟨⟨0,by simp⟩,ay ?_⟩,?_⟩
 ·repeat' first|apply And.intro|exact aK|fail
  all_goals try (conv=>whnf)
  simp
 rintro⟨k,hk,hn⟩
 repeat' ((conv=>whnf);first|with_reducible apply aQ|((with_reducible refine (⟨fun h=>?_,fun h=>?_⟩:(_=true→_)∧(_=false→_)))<;>first|exact absurd h (by decide)|(exfalso;simp only[*,reduceCtorEq] at h;done)|skip)|refine aM ?_|fail)
 ·rename_i h;have hlt:k<l.length:=by simpa using h
  refine⟨_,dJ _ _ _ hlt,?_⟩;repeat' ((conv=>whnf);first|with_reducible apply aQ|((with_reducible refine (⟨fun h=>?_,fun h=>?_⟩:(_=true→_)∧(_=false→_)))<;>first|exact absurd h (by decide)|(exfalso;simp only[*,reduceCtorEq] at h;done)|skip)|refine aM ?_|fail)
  ·rename_i h2 h;repeat' first|apply And.intro|exact aK|fail
   all_goals try (conv=>whnf)
   exact (yG _ hlt hn (by rw[←Pl.aaK];exact h)).symm
  rename_i h2 h;repeat' ((conv=>whnf);first|with_reducible apply aQ|((with_reducible refine (⟨fun h=>?_,fun h=>?_⟩:(_=true→_)∧(_=false→_)))<;>first|exact absurd h (by decide)|(exfalso;simp only[*,reduceCtorEq] at h;done)|skip)|refine aM ?_|fail)
  refine⟨⟨k+1,hlt,lJ hn fun _=>(by rw[←Pl.aaK];exact h)⟩,dec_lt hlt,ay ?_⟩;repeat' first|apply And.intro|exact aK|fail
  all_goals try (conv=>whnf)
  exact bE (by omega) (by omega)
 rename_i h;repeat' first|apply And.intro|exact aK|fail
 all_goals try (conv=>whnf)
 have:k=l.length:=by simp at h;omega
 subst this;exact (mM _ (ve hn)).symm
theorem yS:bG prog 52 f52:=fF func52
theorem bS (l:List Pl)(a b:Int):dP prog 52 [dO l,.agg [ii a,uu b]] (bl (l.any (fun y=>y==⟨a,b⟩))):=by
 refine PC.le ?_;refine dW yS ?_;repeat' ((conv=>whnf);first|with_reducible apply aQ|((with_reducible refine (⟨fun h=>?_,fun h=>?_⟩:(_=true→_)∧(_=false→_)))<;>first|exact absurd h (by decide)|(exfalso;simp only[*,reduceCtorEq] at h;done)|skip)|(apply bC;refine⟨_,qC _ _ _,?_⟩)|refine aM ?_|fail)
 repeat' first|apply And.intro|exact aK|fail
 all_goals try (conv=>whnf)
 exact K5 _ _
theorem nS:bG prog 98 f98:=fF func98
theorem kJ (l:List Pl)(f:FuncId)(first aT:List PV)(p:Pl→Bool)(hp:∀x∈l,dP prog f (first++([.agg x.c]++aT)) (bl (p x))) :
  dP prog 98 [dO l,.fn (.func f) first aT] (ii (qZ p l)):=by
 refine PC.le (nL nS fun hb=>?_);have hb:l.length≤9223372036854775807:=by simpa[F6,Ar,dO] using hb
 refine dW nS ?_;repeat' ((conv=>whnf);first|with_reducible apply aQ|((with_reducible refine (⟨fun h=>?_,fun h=>?_⟩:(_=true→_)∧(_=false→_)))<;>first|exact absurd h (by decide)|(exfalso;simp only[*,reduceCtorEq] at h;done)|skip)|refine aM ?_|fail)
 refine⟨{k:Nat // k≤l.length∧∀j (hj:j<l.length),j<k→p l[j]=false},fun⟨k,_⟩=>⟨[(0,.pv (dO l)),(1,.pv (.fn (.func f) first aT)),(7,.pv (ii l.length)),(8,.pv (ii k))],1000000000,[]⟩,fun⟨k,_⟩=>l.length-k,⟨⟨0,by simp⟩,ay ?_⟩,?_⟩
 ·repeat' first|apply And.intro|exact aK|fail
  all_goals try (conv=>whnf)
  simp
 rintro⟨k,hk,hn⟩
 repeat' ((conv=>whnf);first|with_reducible apply aQ|((with_reducible refine (⟨fun h=>?_,fun h=>?_⟩:(_=true→_)∧(_=false→_)))<;>first|exact absurd h (by decide)|(exfalso;simp only[*,reduceCtorEq] at h;done)|skip)|refine aM ?_|fail)
 ·rename_i h;have hlt:k<l.length:=by simpa using h
  refine⟨_,dJ _ _ _ hlt,?_⟩;repeat' ((conv=>whnf);first|with_reducible apply aQ|((with_reducible refine (⟨fun h=>?_,fun h=>?_⟩:(_=true→_)∧(_=false→_)))<;>first|exact absurd h (by decide)|(exfalso;simp only[*,reduceCtorEq] at h;done)|skip)|(apply bC;refine⟨_,hp _ (List.getElem_mem hlt),?_⟩)|refine aM ?_|fail)
  ·rename_i h2 h;repeat' first|apply And.intro|exact aK|fail
   all_goals try (conv=>whnf)
   exact (yG _ hlt hn h).symm
  rename_i h2 h;repeat' ((conv=>whnf);first|with_reducible apply aQ|((with_reducible refine (⟨fun h=>?_,fun h=>?_⟩:(_=true→_)∧(_=false→_)))<;>first|exact absurd h (by decide)|(exfalso;simp only[*,reduceCtorEq] at h;done)|skip)|refine aM ?_|fail)
  refine⟨⟨k+1,hlt,lJ hn fun _=>h⟩,dec_lt hlt,ay ?_⟩;repeat' first|apply And.intro|exact aK|fail
  all_goals try (conv=>whnf)
  exact bE (by omega) (by omega)
 rename_i h;repeat' first|apply And.intro|exact aK|fail
 all_goals try (conv=>whnf)
 have:k=l.length:=by simp at h;omega
 subst this;exact (mM _ (ve hn)).symm
theorem sS:bG prog 102 f102:=fF func102
theorem lF (l:List Pl)(f:FuncId)(first aT:List PV)(p:Pl→Bool)(hp:∀x∈l,dP prog f (first++([.agg x.c]++aT)) (bl (p x))) :
  dP prog 102 [dO l,.fn (.func f) first aT] (bl (l.any p)):=by
 refine PC.le ?_;refine dW sS ?_;repeat' ((conv=>whnf);first|with_reducible apply aQ|((with_reducible refine (⟨fun h=>?_,fun h=>?_⟩:(_=true→_)∧(_=false→_)))<;>first|exact absurd h (by decide)|(exfalso;simp only[*,reduceCtorEq] at h;done)|skip)|(apply bC;refine⟨_,kJ _ _ _ _ _ hp,?_⟩)|refine aM ?_|fail)
 repeat' first|apply And.intro|exact aK|fail
 all_goals try (conv=>whnf)
 exact K5 _ _
theorem pK:bG prog 177 f177:=fF func177
theorem Aj (l:List Fr)(f:FuncId)(first aT:List PV)(p:Fr→Bool)(hp:∀x∈l,dP prog f (first++([.agg x.c]++aT)) (bl (p x))) :
  dP prog 177 [eT l,.fn (.func f) first aT] (ii (qZ p l)):=by
 refine PC.le (nL pK fun hb=>?_);have hb:l.length≤9223372036854775807:=by simpa[F6,Ar,eT] using hb
 refine dW pK ?_;repeat' ((conv=>whnf);first|with_reducible apply aQ|((with_reducible refine (⟨fun h=>?_,fun h=>?_⟩:(_=true→_)∧(_=false→_)))<;>first|exact absurd h (by decide)|(exfalso;simp only[*,reduceCtorEq] at h;done)|skip)|refine aM ?_|fail)
 refine⟨{k:Nat // k≤l.length∧∀j (hj:j<l.length),j<k→p l[j]=false},fun⟨k,_⟩=>⟨[(0,.pv (eT l)),(1,.pv (.fn (.func f) first aT)),(7,.pv (ii l.length)),(8,.pv (ii k))],1000000000,[]⟩,fun⟨k,_⟩=>l.length-k,⟨⟨0,by simp⟩,ay ?_⟩,?_⟩
 ·repeat' first|apply And.intro|exact aK|fail
  all_goals try (conv=>whnf)
  simp
 rintro⟨k,hk,hn⟩
 repeat' ((conv=>whnf);first|with_reducible apply aQ|((with_reducible refine (⟨fun h=>?_,fun h=>?_⟩:(_=true→_)∧(_=false→_)))<;>first|exact absurd h (by decide)|(exfalso;simp only[*,reduceCtorEq] at h;done)|skip)|refine aM ?_|fail)
 ·rename_i h;have hlt:k<l.length:=by simpa using h
  refine⟨_,dJ _ _ _ hlt,?_⟩;repeat' ((conv=>whnf);first|with_reducible apply aQ|((with_reducible refine (⟨fun h=>?_,fun h=>?_⟩:(_=true→_)∧(_=false→_)))<;>first|exact absurd h (by decide)|(exfalso;simp only[*,reduceCtorEq] at h;done)|skip)|(apply bC;refine⟨_,hp _ (List.getElem_mem hlt),?_⟩)|refine aM ?_|fail)
  ·rename_i h2 h;repeat' first|apply And.intro|exact aK|fail
   all_goals try (conv=>whnf)
   exact (yG _ hlt hn h).symm
  rename_i h2 h;repeat' ((conv=>whnf);first|with_reducible apply aQ|((with_reducible refine (⟨fun h=>?_,fun h=>?_⟩:(_=true→_)∧(_=false→_)))<;>first|exact absurd h (by decide)|(exfalso;simp only[*,reduceCtorEq] at h;done)|skip)|refine aM ?_|fail)
  refine⟨⟨k+1,hlt,lJ hn fun _=>h⟩,dec_lt hlt,ay ?_⟩;repeat' first|apply And.intro|exact aK|fail
  all_goals try (conv=>whnf)
  exact bE (by omega) (by omega)
 rename_i h;repeat' first|apply And.intro|exact aK|fail
 all_goals try (conv=>whnf)
 have:k=l.length:=by simp at h;omega
 subst this;exact (mM _ (ve hn)).symm
theorem uq:bG prog 153 f153:=fF func153
theorem mU (l:List Fr)(f:FuncId)(first aT:List PV)(p:Fr→Bool)(hp:∀x∈l,dP prog f (first++([.agg x.c]++aT)) (bl (p x))) :
  dP prog 153 [eT l,.fn (.func f) first aT] (bl (l.any p)):=by
 refine PC.le ?_;refine dW uq ?_;repeat' ((conv=>whnf);first|with_reducible apply aQ|((with_reducible refine (⟨fun h=>?_,fun h=>?_⟩:(_=true→_)∧(_=false→_)))<;>first|exact absurd h (by decide)|(exfalso;simp only[*,reduceCtorEq] at h;done)|skip)|(apply bC;refine⟨_,Aj _ _ _ _ _ hp,?_⟩)|refine aM ?_|fail)
 repeat' first|apply And.intro|exact aK|fail
 all_goals try (conv=>whnf)
 exact K5 _ _
theorem uH:bG prog 105 f105:=fF func105
theorem gW (l:List Pl)(h:l.length*16≤140737488355328):lg prog 105 [.pv (dO l)] [] (.aZ 1001 0) [(1001,.arr 27 0 2 (l.map Pl.c))]:=by
 refine aax [] ?_ fun h0=>?_
 all_goals
  refine nD uH ?_;repeat' ((conv=>whnf);first|with_reducible apply aQ|((with_reducible refine (⟨fun h=>?_,fun h=>?_⟩:(_=true→_)∧(_=false→_)))<;>first|exact absurd h (by decide)|(exfalso;simp only[*,reduceCtorEq] at h;done)|skip)|refine aM ?_|fail)
  refine⟨_,_,⟨rfl,rfl⟩,?_⟩;repeat' first|apply And.intro|exact aK|fail
  all_goals try (conv=>whnf)
 exact h0
theorem qD (l:List Pl)(h:l.length*16≤140737488355328):dP prog 105 [dO l] (dO l):=by
 refine PC.le (Xp [] ?_ fun h0=>?_);all_goals
  refine dW uH ?_;repeat' ((conv=>whnf);first|with_reducible apply aQ|((with_reducible refine (⟨fun h=>?_,fun h=>?_⟩:(_=true→_)∧(_=false→_)))<;>first|exact absurd h (by decide)|(exfalso;simp only[*,reduceCtorEq] at h;done)|skip)|refine aM ?_|fail)
  repeat' first|apply And.intro|exact aK|fail
  all_goals try (conv=>whnf)
 exact h0
theorem Gp:bG prog 54 f54:=fF func54
theorem jK (l:List UInt8)(h:l.length*1≤140737488355328):dP prog 54 [Db l] (Db l):=by
 refine PC.le (Xp [] ?_ fun h0=>?_);all_goals
  refine dW Gp ?_;repeat' ((conv=>whnf);first|with_reducible apply aQ|((with_reducible refine (⟨fun h=>?_,fun h=>?_⟩:(_=true→_)∧(_=false→_)))<;>first|exact absurd h (by decide)|(exfalso;simp only[*,reduceCtorEq] at h;done)|skip)|refine aM ?_|fail)
  repeat' first|apply And.intro|exact aK|fail
  all_goals try (conv=>whnf)
 exact h0
theorem PN:bG prog 176 f176:=fF func176
theorem TT (n:Int)(x:Fr):dP prog 176 ([]++([.agg x.c]++[.dh [uu n] 0])) (bl (decide (x.first≤n))):=by
 refine PC.le ?_;refine dW PN ?_;repeat' ((conv=>whnf);first|with_reducible apply aQ|((with_reducible apply fk)<;>intro hc<;>try exact bF)|refine aM ?_|fail)
 all_goals exact aK
theorem ND:bG prog 175 f175:=fF func175
theorem Y7 (l:List Fr)(f:FuncId)(first aT:List PV)(p:Fr→Bool)(hp:∀x∈l,dP prog f (first++([.agg x.c]++aT)) (bl (p x))) :
  dP prog 175 [eT l,.fn (.func f) first aT] (.fM [.agg ((jZ p l).getD jI).c,bl (jZ p l).isSome]):=by
 refine PC.le (nL ND fun hb=>?_);have hb:l.length≤9223372036854775807:=by simpa[F6,Ar,eT] using hb
 refine dW ND ?_;repeat' ((conv=>whnf);first|with_reducible apply aQ|((with_reducible apply fk)<;>intro hc<;>try exact bF)|refine aM ?_|fail)
 refine⟨{k:Nat // k≤l.length},fun⟨k,_⟩=>⟨[(1,.pv (.fn (.func f) first aT)),(4,.ptr 1004 0),(5,.pv (bl (jZ p (l.take k)).isSome)),(8,.pv (eT l)),(9,.pv (ii l.length)),(10,.pv (ii k))],1000000000,[(1004,.var [.pv (uu ((jZ p (l.take k)).getD jI).first),.pv (dO ((jZ p (l.take k)).getD jI).ah)])]⟩,fun⟨k,_⟩=>l.length-k,⟨⟨0,by simp⟩,ay ?_⟩,?_⟩
 ·repeat' first|apply And.intro|exact aK|fail
  all_goals try (conv=>whnf)
  all_goals simp
 rintro⟨k,hk⟩
 repeat' ((conv=>whnf);first|with_reducible apply aQ|((with_reducible apply fk)<;>intro hc<;>try exact bF)|refine aM ?_|fail)
 ·have hlt:k<l.length:=by simpa using hc
  refine⟨_,dJ _ _ _ hlt,?_⟩;have hs:jZ p (l.take (k+1))=if p l[k] then some l[k] else jZ p (l.take k):=K6 _ _ _ _ hlt
  repeat' ((conv=>whnf);first|with_reducible apply aQ|((with_reducible apply fk)<;>intro hc<;>try exact bF)|(apply bC;refine⟨_,hp _ (List.getElem_mem hlt),?_⟩)|refine aM ?_|fail)
  ·refine⟨⟨k+1,hlt⟩,dec_lt hlt,ay ?_⟩;repeat' first|apply And.intro|exact aK|fail
   all_goals try (conv=>whnf)
   all_goals first|exact bE (by omega) (by omega)|(rw[hs,if_pos hc];first|rfl|exact aC _)
  refine⟨⟨k+1,hlt⟩,dec_lt hlt,ay ?_⟩;repeat' first|apply And.intro|exact aK|fail
  all_goals try (conv=>whnf)
  all_goals first|exact bE (by omega) (by omega)|(rw[hs,if_neg (by simp[hc])];first|done|exact aC _)
 have:k=l.length:=by simp at hc;omega
 subst this;rw[List.take_length];all_goals exact aK
theorem TU:bG prog 150 f150:=fF func150
theorem NE (l:List Fr)(n:Int)(h:iN l):dP prog 150 [eT l,uu n] (.fM [.agg ((gT l n).getD jI).c,bl (gT l n).isSome]):=by
 refine PC.le ?_;refine dW TU ?_;repeat' ((conv=>whnf);first|with_reducible apply aQ|((with_reducible apply fk)<;>intro hc<;>try exact bF)|(apply bC;refine⟨_,Y7 _ _ _ _ _ fun x _=>TT n x,?_⟩)|(apply bC;refine⟨_,qD _ (by have:=K7 h n;exact Nat.le_trans (Nat.mul_le_mul_right 16 this) (by decide)),?_⟩)|refine aM ?_|fail)
 all_goals exact aK
theorem TV:bG prog 151 f151:=fF func151
theorem Ws (l:List Pl)(k w:Nat)(h0:0<l.length)(hl:l.length≤8796093022208)(hk:k<l.length)(hw:w≤l.length):dP prog 151 [dO l,ii k,ii w] (dO (dZ l k w)):=by
 refine PC.le ?_;refine dW TV ?_;repeat' ((conv=>whnf);first|with_reducible apply aQ|((with_reducible apply fk)<;>intro hc<;>try exact bF)|refine aM ?_|fail)
 refine⟨{i:Nat // i≤w},fun⟨i,_⟩=>⟨[(0,.pv (dO l)),(1,.pv (ii k)),(7,.aZ 1007 0),(9,.pv (ii w)),(10,.pv (ii i))],1000000000,[(1007,.arr 27 0 2 ((dZ l k i).map Pl.c))]⟩,fun⟨i,_⟩=>w-i,⟨⟨0,by simp⟩,ay ?_⟩,?_⟩
 ·all_goals exact aK
 rintro⟨i,hi⟩
 repeat' ((conv=>whnf);first|with_reducible apply aQ|((with_reducible apply fk)<;>intro hc<;>try exact bF)|refine aM ?_|fail)
 ·have hlt:i<w:=by simpa using hc
  have e1:(IntKind.i64.wrap ((k:Int)+(i:Int))).tmod ((l.map Pl.c).length:Int)=(((k+i)%l.length:Nat):Int):=by
   rw[bE (by omega) (by omega),List.length_map];rfl
  have hf:dZ l k (i+1)=dZ l k i++[l[(k+i)%l.length]!]:=by
   simp[dZ,List.range_succ]
  have hlen:(dZ l k i).length=i:=by simp[dZ]
  have hm:(k+i)%l.length<l.length:=Nat.mod_lt _ h0;repeat' ((conv=>whnf);first|with_reducible apply aQ|((with_reducible apply fk)<;>intro hc<;>try exact bF)|(((with_reducible apply And.intro);focus (rw[e1];omega)))|((refine⟨_,RY _ _ e1 hm,?_⟩))|(((with_reducible apply And.intro);focus (simp;omega)))|refine aM ?_|fail)
  refine⟨⟨i+1,hlt⟩,dec_lt hlt,ay ?_⟩;repeat' first|apply And.intro|exact aK|fail
  all_goals try (conv=>whnf)
  all_goals first
   |exact bE (by omega) (by omega)
   |(refine gN ?_;rw[hf,List.map_append,getElem!_pos l _ hm];rfl)
 have:i=w:=by simp at hc;omega
 subst this;all_goals exact aK
theorem Wu (l:List Pl)(k w:Int)(h0:0<l.length)(hl:l.length≤8796093022208)(hk:0≤k∧k<l.length)(hw:0≤w∧w≤l.length):dP prog 151 [dO l,ii k,ii w] (dO (dZ l k.toNat w.toNat)):=by
 have:=Ws l k.toNat w.toNat h0 hl (by omega) (by omega);rwa [Int.toNat_of_nonneg hk.1,Int.toNat_of_nonneg hw.1] at this
theorem Wv:bG prog 108 f108:=fF func108
theorem CJ (l:List Fr)(w n:Int)(h:iN l)(hn:0≤n∧n≤18446744073709551615):dP prog 108 [eT l,ii w,uu n] (dO (setOf l w n)):=by
 refine PC.le ?_;refine dW Wv ?_;cases hf:gT l n with
 | none=>
   have hF:dP prog 150 [eT l,uu n] (.fM [.agg jI.c,bl false]):=by
    have:=NE l n h;rwa [hf] at this
   repeat' ((conv=>whnf);first|with_reducible apply aQ|((with_reducible apply fk)<;>intro hc<;>try exact bF)|(apply bC;refine⟨_,hF,?_⟩)|refine aM ?_|fail)
   repeat' first|apply And.intro|exact aK|fail
   all_goals try (conv=>whnf)
   simp[setOf,hf]
 | some f=>
   obtain⟨⟨f1,f2,f3⟩,f4⟩:=yH h hf;have hF:dP prog 150 [eT l,uu n] (.fM [.agg f.c,bl true]):=by
    have:=NE l n h;rwa [hf] at this
   have e1 (hpos:0<f.ah.length):IntKind.i64.wrap ((IntKind.u64.wrap (n-f.first)).tmod (IntKind.u64.wrap ((f.ah.map Pl.c).length:Int)))=(n-f.first)%(f.ah.length:Int):=by
    rw[kT (by omega) (by omega),List.length_map,kT (by omega) (by omega),Int.tmod_eq_emod_of_nonneg (by omega)];have h1:=Int.emod_nonneg (n-f.first) (b:=(f.ah.length:Int)) (by omega);have h2:=Int.emod_lt_of_pos (n-f.first) (b:=(f.ah.length:Int)) (by omega);exact bE (by omega) (by omega)
   repeat' ((conv=>whnf);first|with_reducible apply aQ|((with_reducible apply fk)<;>intro hc<;>try exact bF)|(apply bC;refine⟨_,hF,?_⟩)|refine aM ?_|fail)
   ·repeat' first|apply And.intro|exact aK|fail
    all_goals try (conv=>whnf)
    simp only[kU,Au,fe] at *;simp only[setOf,hf];rw[if_neg (by omega)];rfl
   ·repeat' first|apply And.intro|exact aK|fail
    all_goals try (conv=>whnf)
    simp only[kU,Au,fe] at *;simp only[setOf,hf];rw[if_neg (by omega)];rfl
   simp at hc;rename_i hc1;simp at hc1;have hpos:0<f.ah.length:=by omega
   have e1:=e1 hpos;have h1:=Int.emod_nonneg (n-f.first) (b:=(f.ah.length:Int)) (by omega);have h2:=Int.emod_lt_of_pos (n-f.first) (b:=(f.ah.length:Int)) (by omega);repeat' ((conv=>whnf);first|with_reducible apply aQ|((with_reducible apply fk)<;>intro hc<;>try exact bF)|(((with_reducible apply And.intro);focus (rw[List.length_map,kT (by omega) (by omega)];omega)))|(apply bC;refine⟨_,Wu _ _ _ hpos f3 (by rw[e1];exact⟨h1,h2⟩) ⟨by omega,hc⟩,?_⟩)|refine aM ?_|fail)
   repeat' first|apply And.intro|exact aK|fail
   all_goals try (conv=>whnf)
   refine gN ?_;rw[e1];simp only[setOf,hf];rw[if_pos (by omega)]
theorem xE:bG prog 18 f18:=fF func18
theorem zQ (l:List Fr):dP prog 18 [eT l] (bl (zy l)):=by
 refine PC.le (nL xE fun hb=>?_);have hb:l.length≤9223372036854775807:=by simpa[F6,Ar,eT] using hb
 refine dW xE ?_;repeat' ((conv=>whnf);first|with_reducible apply aQ|((with_reducible apply fk)<;>intro hc<;>try exact bF)|refine aM ?_|fail)
 ·repeat' first|apply And.intro|exact aK|fail
  all_goals try (conv=>whnf)
  simp[zy] at *;omega
 refine⟨{k:Nat // k≤l.length∧∀j (hj:j<l.length),j<k→decide ((l[j].ah.length:Int)>30)=false},fun⟨k,_⟩=>⟨[(0,.pv (eT l)),(3,.pv (ii k))],1000000000,[]⟩,fun⟨k,_⟩=>l.length-k,⟨⟨0,by simp⟩,ay ?_⟩,?_⟩
 ·all_goals exact aK
 rintro⟨k,hk,hn⟩
 repeat' ((conv=>whnf);first|with_reducible apply aQ|((with_reducible apply fk)<;>intro hc<;>try exact bF)|refine aM ?_|fail)
 ·have hlt:k<l.length:=by simpa using hc
  refine⟨_,dJ _ _ _ hlt,?_⟩;repeat' ((conv=>whnf);first|with_reducible apply aQ|((with_reducible apply fk)<;>intro hc<;>try exact bF)|refine aM ?_|fail)
  ·repeat' first|apply And.intro|exact aK|fail
   all_goals try (conv=>whnf)
   rw[List.length_map] at hc;have:=List.any_eq_true.2 (⟨l[k],List.getElem_mem hlt,hc⟩:∃x∈l,(fun f:Fr=>decide ((f.ah.length:Int)>30)) x=true);simp only[zy,this,Bool.or_true]
  repeat' ((conv=>whnf);first|with_reducible apply aQ|((with_reducible apply fk)<;>intro hc<;>try exact bF)|refine aM ?_|fail)
  refine⟨⟨k+1,hlt,lJ hn fun _=>by rw[List.length_map] at hc;exact hc⟩,dec_lt hlt,ay ?_⟩;repeat' first|apply And.intro|exact aK|fail
  all_goals try (conv=>whnf)
  exact bE (by omega) (by omega)
 have hk:k=l.length:=by simp at hc;omega
 subst hk;repeat' first|apply And.intro|exact aK|fail
 all_goals try (conv=>whnf)
 have h1:(l.any fun f=>decide ((f.ah.length:Int)>30))=false:=by
  rw[List.any_eq_false];intro x hx;have:=ve (q:=fun f:Fr=>decide ((f.ah.length:Int)>30)=false) hn x hx;simpa using this
 simp only[zy,h1,Bool.or_false];simp at *;omega
theorem CK (l:List Pl)(k:Nat)(a b:Int):dP prog 52 [.sl false 2 ((List.map Pl.c l).take ((k:Nat):Int).toNat),.agg [ii a,uu b]] (bl ((l.take k).any (fun y=>y==⟨a,b⟩))):=by
 have h:=bS (l.take k) a b;rw[dO,List.map_take] at h;exact h
theorem Fg:bG prog 163 f163:=fF func163
theorem Ub (set bW:List Pl):dP prog 163 [dO set,dO bW] (ii (Le set bW:Nat)):=by
 refine PC.le (nL Fg fun hb=>?_);have hb:set.length≤9223372036854775807:=by simp[F6,Ar,dO] at hb;omega
 refine dW Fg ?_;repeat' ((conv=>whnf);first|with_reducible apply aQ|((with_reducible apply fk)<;>intro hc<;>try exact bF)|refine aM ?_|fail)
 refine⟨{k:Nat // k≤set.length},fun⟨k,_⟩=>⟨[(0,.pv (dO set)),(1,.pv (dO bW)),(5,.pv (ii (om set bW k:Nat))),(8,.pv (dO set)),(9,.pv (ii set.length)),(10,.pv (ii k))],1000000000,[]⟩,fun⟨k,_⟩=>set.length-k,⟨⟨0,Nat.zero_le _⟩,ay ?_⟩,?_⟩
 ·repeat' first|apply And.intro|exact aK|fail
  all_goals try (conv=>whnf)
  all_goals simp
 rintro⟨k,hk⟩
 have hcl:=Nc set bW k;by_cases hlt:k<set.length
 ·have d0:decide ((k:Int)<(set.length:Int))=true:=by simp only[kU];omega
  have eW:IntKind.i64.wrap ((k:Int)+1)=((k+1:Nat):Int):=by rw[bE (by omega) (by omega)];omega
  have eC:IntKind.i64.wrap ((om set bW k:Int)+1)=((om set bW k+1:Nat):Int):=by rw[bE (by omega) (by omega)];omega
  have es:om set bW (k+1)=om set bW k+(if (bW.any fun y=>y==(⟨set[k].node,set[k].bf⟩:Pl)) && !((set.take k).any fun y=>y==(⟨set[k].node,set[k].bf⟩:Pl)) then 1 else 0):=yJ set bW k hlt;have hct:=CK set k;repeat' ((conv=>whnf);first|with_reducible apply aQ|((with_reducible apply fk)<;>intro hc<;>try exact bF)|((refine⟨_,dJ _ _ _ hlt,?_⟩))|(apply bC;refine⟨_,bS _ _ _,?_⟩)|(apply bC;refine⟨_,hct _ _,?_⟩)|(((with_reducible apply And.intro);focus (show (k:Int)≤((List.map Pl.c set).length:Int);rw[List.length_map];omega)))|refine aM ?_|fail)
  all_goals
   refine⟨⟨k+1,hlt⟩,dec_lt hlt,ay ?_⟩;repeat' first|apply And.intro|exact aK|fail
   all_goals try (conv=>whnf)
   all_goals first
    |exact eW
    |(rw[eC,es];simp only[*,Bool.and_self,Bool.true_and,Bool.false_and,Bool.false_eq_true,↓reduceIte,Nat.add_zero];done)
    |(rw[es];simp only[*,Bool.and_self,Bool.true_and,Bool.false_and,Bool.and_false,Bool.false_eq_true,↓reduceIte,Nat.add_zero];done)
 have hke:k=set.length:=by omega
 subst hke;have d0:decide ((set.length:Int)<(set.length:Int))=false:=by simp
 repeat' ((conv=>whnf);first|with_reducible apply aQ|((with_reducible apply fk)<;>intro hc<;>try exact bF)|refine aM ?_|fail)
 all_goals exact aK
theorem PW:bG prog 134 f134:=fF func134
theorem Uc (set:List Pl)(a:Int)(from_:List Pl):dP prog 134 [dO set,ii a,dO from_] (bl (fT set a from_)):=by
 refine PC.le ?_;refine dW PW ?_;repeat' ((conv=>whnf);first|with_reducible apply aQ|((with_reducible apply fk)<;>intro hc<;>try exact bF)|(apply bC;refine⟨_,Ub _ _,?_⟩)|refine aM ?_|fail)
 all_goals
  repeat' first|apply And.intro|exact aK|fail
  all_goals try (conv=>whnf)
  all_goals first
   |(simp_all [fT];done)
   |(simp_all [fT];omega)
def ae2:Tab:=pin tab
theorem Um:bA prog ae2:=Pk nR
theorem ae3 {α:Type}(c:α→List PV)(A:List α)(x:α)(B:List α)(k:Nat)(h:k<A.length):((A++x::B).map c)[k]? = some (c A[k]):=by
 rw[List.map_append,List.getElem?_append_left (by simpa using h)];simp[h]
theorem ae4 {α:Type}(c:α→List PV)(A:List α)(x:α)(B:List α):((A++x::B).map c)[A.length]? = some (c x):=by
 simp
theorem ae5 {α:Type}(c:α→List PV)(A:List α)(x:α)(B:List α)(k:Nat)(h:k<B.length):((A++x::B).map c)[A.length+1+k]? = some (c B[k]):=by
 rw[List.map_append,List.getElem?_append_right (by simp;omega)];simp[show A.length+1+k-A.length=k+1 by omega,h]
theorem JM:bG prog 83 f83:=fF func83
theorem JN:bG prog 125 f125:=fF func125
theorem Un:bG prog 123 f123:=fF func123
theorem JO:bG prog 124 f124:=fF func124
theorem NI:bG prog 69 f69:=fF func69
theorem qE (f:Fr)(h:f.ah.length≤1000):dP prog 83 [.agg f.c] (.agg f.c):=by
 refine PC.le ?_;refine dW JM ?_;repeat' ((conv=>whnf);first|with_reducible apply aQ|((with_reducible apply fk)<;>intro hc<;>try exact bF)|(apply bC;refine⟨_,qD _ (by omega),?_⟩)|refine aM ?_|fail)
 all_goals exact aK
theorem Gz (x:Wt)(h:NC x):dP prog 125 ([]++([.agg x.c]++[])) (.agg x.c):=by
 have h1:=h.body;have h2:=h.from_;refine PC.le ?_;refine dW JN ?_;repeat' ((conv=>whnf);first|with_reducible apply aQ|((with_reducible apply fk)<;>intro hc<;>try exact bF)|(apply bC;refine⟨_,jK _ (by omega),?_⟩)|(apply bC;refine⟨_,qD _ (by omega),?_⟩)|refine aM ?_|fail)
 all_goals exact aK
theorem WE (x:Wt)(h:NC x):lg prog 125 ([]++([.pv (.agg x.c)]++[])) [] (.agg (XE x (.aZ 1001 0))) [(1001,.arr 27 0 2 (x.from_.map Pl.c))]:=by
 have h1:=h.body;have h2:=h.from_;refine nD JN ?_;repeat' ((conv=>whnf);first|with_reducible apply aQ|((with_reducible apply fk)<;>intro hc<;>try exact bF)|(apply bC;refine⟨_,jK _ (by omega),?_⟩)|(apply iC;refine⟨_,_,gW _ (by omega),?_⟩)|refine aM ?_|fail)
 refine⟨_,_,⟨rfl,rfl⟩,?_⟩;all_goals exact aK
theorem NJ (l:List Fr)(h:l.length≤1000)(hb:∀f∈l,f.ah.length≤1000):lg prog 123 [.pv (eT l),.pv (.fn (.func 83) [] [])] [] (.aZ 1001 0) [(1001,.arr 48 0 2 (l.map Fr.c))]:=by
 refine nD Un ?_;repeat' ((conv=>whnf);first|with_reducible apply aQ|((with_reducible apply fk)<;>intro hc<;>try exact bF)|refine aM ?_|fail)
 refine⟨{k:Nat // k≤l.length},fun⟨k,_⟩=>⟨[(1,.pv (.fn (.func 83) [] [])),(5,.aZ 1001 0),(8,.pv (eT l)),(9,.pv (ii l.length)),(10,.pv (ii k))],1000000000,[(1001,.arr 48 0 2 ((l.take k).map Fr.c))]⟩,fun⟨k,_⟩=>l.length-k,⟨⟨0,by simp⟩,ay ?_⟩,?_⟩
 ·repeat' first|apply And.intro|exact aK|fail
  all_goals try (conv=>whnf)
  all_goals simp
 rintro⟨k,hk⟩
 by_cases hlt:k<l.length
 ·have d0:decide ((k:Int)<(l.length:Int))=true:=by simp only[kU];omega
  have eW:IntKind.i64.wrap ((k:Int)+1)=((k+1:Nat):Int):=by rw[bE (by omega) (by omega)];omega
  repeat' ((conv=>whnf);first|with_reducible apply aQ|((with_reducible apply fk)<;>intro hc<;>try exact bF)|((refine⟨_,dJ _ _ _ hlt,?_⟩))|(apply bC;refine⟨_,qE _ (hb _ (List.getElem_mem hlt)),?_⟩)|(((with_reducible apply And.intro);focus (simp only[fe,mH,mI,List.length_take,mZ] at *;omega)))|refine aM ?_|fail)
  refine⟨⟨k+1,hlt⟩,dec_lt hlt,ay ?_⟩;repeat' first|apply And.intro|exact aK|fail
  all_goals try (conv=>whnf)
  all_goals first
   |exact eW
   | (rw[List.take_succ_eq_append_getElem hlt,List.map_append]
      refine dH (aC _) ?_
      (repeat' first|apply And.intro|exact aK|fail);(all_goals try (conv=>whnf)))
 have hke:k=l.length:=by omega
 subst hke;have d0:decide ((l.length:Int)<(l.length:Int))=false:=by simp
 repeat' ((conv=>whnf);first|with_reducible apply aQ|((with_reducible apply fk)<;>intro hc<;>try exact bF)|refine aM ?_|fail)
 refine⟨_,_,⟨rfl,rfl⟩,?_⟩;repeat' first|apply And.intro|exact aK|fail
 all_goals try (conv=>whnf)
 all_goals (rw[List.take_length];exact aC _)
theorem WG (l:List Wt)(h:l.length≤1000)(hb:∀x∈l,NC x):lg prog 124 [.pv (nA l),.pv (.fn (.func 125) [] [])] [] (.aZ 1001 0) [(1001,.arr 145 0 5 (l.map Wt.c))]:=by
 refine nD JO ?_;repeat' ((conv=>whnf);first|with_reducible apply aQ|((with_reducible apply fk)<;>intro hc<;>try exact bF)|refine aM ?_|fail)
 refine⟨{k:Nat // k≤l.length},fun⟨k,_⟩=>⟨[(1,.pv (.fn (.func 125) [] [])),(5,.aZ 1001 0),(8,.pv (nA l)),(9,.pv (ii l.length)),(10,.pv (ii k))],1000000000,[(1001,.arr 145 0 5 ((l.take k).map Wt.c))]⟩,fun⟨k,_⟩=>l.length-k,⟨⟨0,by simp⟩,ay ?_⟩,?_⟩
 ·repeat' first|apply And.intro|exact aK|fail
  all_goals try (conv=>whnf)
  all_goals simp
 rintro⟨k,hk⟩
 by_cases hlt:k<l.length
 ·have d0:decide ((k:Int)<(l.length:Int))=true:=by simp only[kU];omega
  have eW:IntKind.i64.wrap ((k:Int)+1)=((k+1:Nat):Int):=by rw[bE (by omega) (by omega)];omega
  repeat' ((conv=>whnf);first|with_reducible apply aQ|((with_reducible apply fk)<;>intro hc<;>try exact bF)|((refine⟨_,dJ _ _ _ hlt,?_⟩))|(apply bC;refine⟨_,Gz _ (hb _ (List.getElem_mem hlt)),?_⟩)|(((with_reducible apply And.intro);focus (simp only[fe,mH,mI,List.length_take,mZ] at *;omega)))|refine aM ?_|fail)
  refine⟨⟨k+1,hlt⟩,dec_lt hlt,ay ?_⟩;repeat' first|apply And.intro|exact aK|fail
  all_goals try (conv=>whnf)
  all_goals first
   |exact eW
   | (rw[List.take_succ_eq_append_getElem hlt,List.map_append]
      refine dH (aC _) ?_
      (repeat' first|apply And.intro|exact aK|fail);(all_goals try (conv=>whnf)))
 have hke:k=l.length:=by omega
 subst hke;have d0:decide ((l.length:Int)<(l.length:Int))=false:=by simp
 repeat' ((conv=>whnf);first|with_reducible apply aQ|((with_reducible apply fk)<;>intro hc<;>try exact bF)|refine aM ?_|fail)
 refine⟨_,_,⟨rfl,rfl⟩,?_⟩;repeat' first|apply And.intro|exact aK|fail
 all_goals try (conv=>whnf)
 all_goals (rw[List.take_length];exact aC _)
theorem WH (A:List Wt)(x:Wt)(B:List Wt)(h:A.length+(1+B.length)≤1000)(hA:∀y∈A,NC y)(hx:NC x)(hB:∀y∈B,NC y):lg prog 124 [.pv (nA (A++x::B)),.pv (.fn (.func 125) [] [])] [] (.aZ 1001 0)
  [(1001,.dX 145 0 5 (A.map Wt.c) (XE x (.aZ 1002 0)) (B.map Wt.c)),(1002,.arr 27 0 2 (x.from_.map Pl.c))]:=by
 have hn:(A++x::B).length=A.length+(1+B.length):=by simp[Nat.add_comm]
 have hm:(((A++x::B).map Wt.c).length:Int)=((A.length+(1+B.length):Nat):Int):=by rw[List.length_map,hn]
 refine wm Um (jU mixed Um) JO rfl ?_;repeat' ((conv=>whnf);first|with_reducible apply aQ|((with_reducible apply fk)<;>intro hc<;>try exact bF)|refine aM ?_|fail)
 refine⟨{k:Nat // k≤A.length} ⊕ {k:Nat // k≤B.length},fun i=>match i with
   |.inl ⟨k,_⟩=>⟨[(1,.pv (.fn (.func 125) [] [])),(5,.aZ 1001 0),(8,.pv (nA (A++x::B))),(9,.pv (ii ((A.length+(1+B.length):Nat)))),(10,.pv (ii k))],1000000000,[(1001,.arr 145 0 5 ((A.take k).map Wt.c))]⟩
   |.inr ⟨k,_⟩=>⟨[(1,.pv (.fn (.func 125) [] [])),(5,.aZ 1001 0),(8,.pv (nA (A++x::B))),(9,.pv (ii ((A.length+(1+B.length):Nat)))),(10,.pv (ii ((A.length+1+k:Nat))))],1000000000,[(1001,.dX 145 0 5 (A.map Wt.c) (XE x (.aZ 1002 0)) ((B.take k).map Wt.c)),(1002,.arr 27 0 2 (x.from_.map Pl.c))]⟩,
  fun i=>match i with
   |.inl ⟨k,_⟩=>A.length+(1+B.length)-k
   |.inr ⟨k,_⟩=>B.length-k,⟨.inl ⟨0,by simp⟩,ay ?_⟩,?_⟩
 ·repeat' first|apply And.intro|exact aK|fail
  all_goals try (conv=>whnf)
  all_goals first
   |exact hm
   |simp
 rintro (⟨k,hk⟩|⟨k,hk⟩)
 ·by_cases hlt:k<A.length
  ·have d0:decide ((k:Int)<((A.length+(1+B.length):Nat):Int))=true:=by simp only[kU];omega
   have eW:IntKind.i64.wrap ((k:Int)+1)=((k+1:Nat):Int):=by rw[bE (by omega) (by omega)];omega
   have hr:=ae3 Wt.c A x B k hlt;repeat' ((conv=>whnf);first|with_reducible apply aQ|((with_reducible apply fk)<;>intro hc<;>try exact bF)|((refine⟨_,hr,?_⟩))|(apply bC;refine⟨_,Gz _ (hA _ (List.getElem_mem hlt)),?_⟩)|(((with_reducible apply And.intro);focus (simp only[fe,mH,mI,List.length_take,mZ] at *;omega)))|refine aM ?_|fail)
   refine⟨.inl ⟨k+1,hlt⟩,by simp only;omega,ay ?_⟩;repeat' first|apply And.intro|exact aK|fail
   all_goals try (conv=>whnf)
   all_goals first
    |exact eW
    | (rw[List.take_succ_eq_append_getElem hlt,List.map_append]
       refine dH (aC _) ?_
       (repeat' first|apply And.intro|exact aK|fail);(all_goals try (conv=>whnf)))
  have hke:k=A.length:=by omega
  subst hke;have d0:decide ((A.length:Int)<((A.length+(1+B.length):Nat):Int))=true:=by simp only[kU];omega
  have eW:IntKind.i64.wrap ((A.length:Int)+1)=((A.length+1+0:Nat):Int):=by rw[bE (by omega) (by omega)];omega
  have hr:=ae4 Wt.c A x B;repeat' ((conv=>whnf);first|with_reducible apply aQ|((with_reducible apply fk)<;>intro hc<;>try exact bF)|((refine⟨_,hr,?_⟩))|(apply iC;refine⟨_,_,WE _ hx,?_⟩)|(((with_reducible apply And.intro);focus (simp only[fe,mH,mI,List.length_take,mZ] at *;omega)))|refine aM ?_|fail)
  refine⟨.inr ⟨0,by omega⟩,by simp only;omega,ay ?_⟩;repeat' first|apply And.intro|exact aK|fail
  all_goals try (conv=>whnf)
  all_goals first
   |exact eW
   |(rw[List.take_length];exact aC _)
   |simp
 by_cases hlt:k<B.length
 ·have d0:decide (((A.length+1+k:Nat):Int)<((A.length+(1+B.length):Nat):Int))=true:=by simp only[kU];omega
  have eW:IntKind.i64.wrap (((A.length+1+k:Nat):Int)+1)=((A.length+1+(k+1):Nat):Int):=by rw[bE (by omega) (by omega)];omega
  have hr:=ae5 Wt.c A x B k hlt;repeat' ((conv=>whnf);first|with_reducible apply aQ|((with_reducible apply fk)<;>intro hc<;>try exact bF)|((refine⟨_,hr,?_⟩))|(apply bC;refine⟨_,Gz _ (hB _ (List.getElem_mem hlt)),?_⟩)|(((with_reducible apply And.intro);focus (simp only[fe,mH,mI,List.length_take,mZ] at *;omega)))|refine aM ?_|fail)
  refine⟨.inr ⟨k+1,hlt⟩,by simp only;omega,ay ?_⟩;repeat' first|apply And.intro|exact aK|fail
  all_goals try (conv=>whnf)
  all_goals first
   |exact eW
   | (rw[List.take_succ_eq_append_getElem hlt,List.map_append]
      refine dH (aC _) ?_
      (repeat' first|apply And.intro|exact aK|fail);(all_goals try (conv=>whnf)))
 have hke:k=B.length:=by omega
 subst hke;have d0:decide (((A.length+1+B.length:Nat):Int)<((A.length+(1+B.length):Nat):Int))=false:=by simp only[Au];omega
 repeat' ((conv=>whnf);first|with_reducible apply aQ|((with_reducible apply fk)<;>intro hc<;>try exact bF)|refine aM ?_|fail)
 refine⟨_,_,⟨rfl,rfl⟩,?_⟩;repeat' first|apply And.intro|exact aK|fail
 all_goals try (conv=>whnf)
 all_goals (rw[List.take_length];exact aC _)
section
variable (w:Wr)(h:U8 w)
include h
theorem xI:lg prog 69 [.pv (.agg w.c)] [] (.ptr 1001 0)
  [(1001,.var (nC w (.aZ 1002 0) (.aZ 1003 0) (.aZ 1004 0) (.pv dV))),(1002,.arr 48 0 2 (w.l.aj.map Fr.c)),(1003,.arr 145 0 5 (w.waits.map Wt.c)),(1004,.arr 27 0 2 (w.bad.map Pl.c))]:=by
 have h1:=h.bl;have h2:=qE w.change h.cl;have h3:=NJ _ h.fl h.fb;have h4:=WG _ h.wl h.wx;clear h;refine nD NI ?_;repeat' ((conv=>whnf);first|with_reducible apply aQ|((with_reducible apply fk)<;>intro hc<;>try exact bF)|rewrite[qO]|rewrite[qP]|(apply iC;refine⟨_,_,h3,?_⟩)|(apply iC;refine⟨_,_,h4,?_⟩)|(apply iC;refine⟨_,_,gW _ (by omega),?_⟩)|(apply bC;refine⟨_,aL (h2) ?_,?_⟩;exact dx)|refine aM ?_|fail)
 refine⟨_,_,⟨rfl,rfl⟩,?_⟩;all_goals exact aK
theorem qF:lg prog 69 [.pv (.agg w.c)] [] (.ptr 1001 0)
  [(1001,.var (nC w (.pv (eT w.l.aj)) (.pv (nA w.waits)) (.pv (dO w.bad)) (.pv dV)))]:=by
 refine lZ (xI w h) [1002,1003,1004] ?_
 (conv=>whnf)
 refine⟨_,_,⟨rfl,rfl⟩,?_⟩;all_goals exact aK
theorem WI:lg prog 69 [.pv (.agg w.c)] [] (.ptr 1001 0)
  [(1001,.var (nC w (.pv (eT w.l.aj)) (.aZ 1003 0) (.pv (dO w.bad)) (.pv dV))),(1003,.arr 145 0 5 (w.waits.map Wt.c))]:=by
 refine lZ (xI w h) [1002,1004] ?_
 (conv=>whnf)
 refine⟨_,_,⟨rfl,rfl⟩,?_⟩;all_goals exact aK
theorem WJ:lg prog 69 [.pv (.agg w.c)] [] (.ptr 1001 0)
  [(1001,.var (nC w (.pv (eT w.l.aj)) (.pv (nA w.waits)) (.aZ 1004 0) (.pv dV))),(1004,.arr 27 0 2 (w.bad.map Pl.c))]:=by
 refine lZ (xI w h) [1002,1003] ?_
 (conv=>whnf)
 refine⟨_,_,⟨rfl,rfl⟩,?_⟩;all_goals exact aK
theorem WK:lg prog 69 [.pv (.agg w.c)] [] (.ptr 1001 0)
  [(1001,.var (nC w (.pv (eT w.l.aj)) (.aZ 1003 0) (.aZ 1004 0) (.pv dV))),(1003,.arr 145 0 5 (w.waits.map Wt.c)),(1004,.arr 27 0 2 (w.bad.map Pl.c))]:=by
 refine lZ (xI w h) [1002] ?_
 (conv=>whnf)
 refine⟨_,_,⟨rfl,rfl⟩,?_⟩;all_goals exact aK
theorem WL:lg prog 69 [.pv (.agg w.c)] [] (.ptr 1001 0)
  [(1001,.var (nC w (.aZ 1002 0) (.aZ 1003 0) (.pv (dO w.bad)) (.pv dV))),(1002,.arr 48 0 2 (w.l.aj.map Fr.c)),(1003,.arr 145 0 5 (w.waits.map Wt.c))]:=by
 refine lZ (xI w h) [1004] ?_
 (conv=>whnf)
 refine⟨_,_,⟨rfl,rfl⟩,?_⟩;all_goals exact aK
theorem WM (A:List Wt)(x:Wt)(B:List Wt)(hx:w.waits=A++x::B):lg prog 69 [.pv (.agg w.c)] [] (.ptr 1001 0)
  [(1001,.var (nC w (.aZ 1002 0) (.aZ 1003 0) (.aZ 1005 0) (.pv dV))),(1002,.arr 48 0 2 (w.l.aj.map Fr.c)),(1003,.dX 145 0 5 (A.map Wt.c) (XE x (.aZ 1004 0)) (B.map Wt.c)),(1004,.arr 27 0 2 (x.from_.map Pl.c)),(1005,.arr 27 0 2 (w.bad.map Pl.c))]:=by
 have h1:=h.bl;have h2:=qE w.change h.cl;have h3:=NJ _ h.fl h.fb;have hl:=h.wl;have hw:=h.wx;rw[hx] at hl hw;have h4:=WH A x B (by simpa[Nat.add_comm] using hl) (fun y hy=>hw y (by simp[hy])) (hw x (by simp)) (fun y hy=>hw y (by simp[hy]));rw[←hx] at h4;clear h hx hl hw;refine nD NI ?_;repeat' ((conv=>whnf);first|with_reducible apply aQ|((with_reducible apply fk)<;>intro hc<;>try exact bF)|rewrite[qO]|rewrite[qP]|(apply iC;refine⟨_,_,h3,?_⟩)|(apply iC;refine⟨_,_,h4,?_⟩)|(apply iC;refine⟨_,_,gW _ (by omega),?_⟩)|(apply bC;refine⟨_,aL (h2) ?_,?_⟩;exact dx)|refine aM ?_|fail)
 refine⟨_,_,⟨rfl,rfl⟩,?_⟩;all_goals exact aK
theorem WN (A:List Wt)(x:Wt)(B:List Wt)(hx:w.waits=A++x::B):lg prog 69 [.pv (.agg w.c)] [] (.ptr 1001 0)
  [(1001,.var (nC w (.pv (eT w.l.aj)) (.aZ 1003 0) (.pv (dO w.bad)) (.pv dV))),(1003,.dX 145 0 5 (A.map Wt.c) (XE x (.aZ 1004 0)) (B.map Wt.c)),(1004,.arr 27 0 2 (x.from_.map Pl.c))]:=by
 refine lZ (WM w h A x B hx) [1002,1005] ?_
 (conv=>whnf)
 refine⟨_,_,⟨rfl,rfl⟩,?_⟩;all_goals exact aK
end
def ZN (w:Wr)(W B O:PV):List PV:=[uu w.l.id,ii w.l.w,ii w.l.a,eT w.l.aj,ii w.l.closed,uu w.l.last,uu w.aX,uu w.next,uu w.sure,W,B,uu w.change.first,dO w.change.ah,ii w.fenced,O]
theorem Uo:bG prog 114 f114:=fF func114
theorem WQ (w:Wr):dP prog 114 [.agg w.c] (bl (decide (w.next>8))):=by
 refine PC.le ?_;refine dW Uo ?_;repeat' ((conv=>whnf);first|with_reducible apply aQ|((with_reducible apply fk)<;>intro hc<;>try exact bF)|refine aM ?_|fail)
 all_goals exact aK
theorem Uq:bG prog 76 f76:=fF func76
theorem NK (now since t:Int)(h1:eD now)(h2:eD since):dP prog 76 [uu now,uu since,uu t] (bl (eF now since t)):=by
 obtain⟨h1,h1'⟩:=h1;obtain⟨h2,h2'⟩:=h2;refine PC.le ?_;have e:IntKind.u64.wrap ((if since>now then since else now)-since)=(if since>now then since else now)-since:=kT (by split<;>omega) (by split<;>omega);refine dW Uq ?_;repeat' ((conv=>whnf);first|with_reducible apply aQ|((with_reducible apply fk)<;>intro hc<;>try exact bF)|refine aM ?_|fail)
 repeat' first|apply And.intro|exact aK|fail
 all_goals try (conv=>whnf)
 rw[e];rfl
theorem xJ:bG prog 77 f77:=fF func77
theorem WR (w:Wr)(W B O:PV)(n:Int)(hf:iN w.l.aj)(hn:eD n):dP prog 77 [.dh (ZN w W B O) 0,uu n] (dO (bJ w n)):=by
 have hs:=CJ w.l.aj w.l.w n hf hn;refine PC.le ?_;refine dW xJ ?_;repeat' ((conv=>whnf);first|with_reducible apply aQ|((with_reducible apply fk)<;>intro hc<;>try exact bF)|(apply bC;refine⟨_,hs,?_⟩)|refine aM ?_|fail)
 all_goals exact aK
theorem kZ:bG prog 82 f82:=fF func82
theorem CV (l:List Fr)(h:0<l.length):∃k,∃hk:k<l.length,k=l.length-1∧aO l=l[k]:=by
 refine⟨l.length-1,by omega,rfl,?_⟩;unfold aO;rw[List.getLast?_eq_getElem?,List.getElem?_eq_getElem (by omega)];rfl
theorem mX:aO []=jI:=rfl
theorem Mg:bG prog 154 f154:=fF func154
theorem Qc (p:Pl)(f:Fr):dP prog 154 ([]++([.agg f.c]++[.dh p.c 0])) (bl (bI f.ah p)):=by
 refine PC.le ?_;refine dW Mg ?_;repeat' ((conv=>whnf);first|with_reducible apply aQ|((with_reducible apply fk)<;>intro hc<;>try exact bF)|(apply bC;refine⟨_,bS _ _ _,?_⟩)|refine aM ?_|fail)
 all_goals exact aK
theorem Qd:bG prog 117 f117:=fF func117
theorem yT (w:Wr)(W B O:PV)(p:Pl):dP prog 117 [.dh (ZN w W B O) 0,.agg p.c] (bl (kH w p)):=by
 have ZK:=mU w.l.aj 154 [] [.dh p.c 0] (fun f=>bI f.ah p) (fun f _=>Qc p f);refine PC.le ?_;refine dW Qd ?_;repeat' ((conv=>whnf);first|with_reducible apply aQ|((with_reducible apply fk)<;>intro hc<;>try exact bF)|(apply bC;refine⟨_,ZK,?_⟩)|refine aM ?_|fail)
 all_goals exact aK
theorem uJ:bG prog 115 f115:=fF func115
theorem GA (l:List Wt)(f:FuncId)(first aT:List PV)(p:Wt→Bool)(hp:∀x∈l,dP prog f (first++([.agg x.c]++aT)) (bl (p x))) :
  dP prog 115 [nA l,.fn (.func f) first aT] (ii (qZ p l)):=by
 refine PC.le (nL uJ fun hb=>?_);have hb:l.length≤9223372036854775807:=by simpa[F6,Ar,nA] using hb
 refine dW uJ ?_;repeat' ((conv=>whnf);first|with_reducible apply aQ|((with_reducible apply fk)<;>intro hc<;>try exact bF)|refine aM ?_|fail)
 refine⟨{k:Nat // k≤l.length∧∀j (hj:j<l.length),j<k→p l[j]=false},fun⟨k,_⟩=>⟨[(0,.pv (nA l)),(1,.pv (.fn (.func f) first aT)),(7,.pv (ii l.length)),(8,.pv (ii k))],1000000000,[]⟩,fun⟨k,_⟩=>l.length-k,⟨⟨0,by simp⟩,ay ?_⟩,?_⟩
 ·repeat' first|apply And.intro|exact aK|fail
  all_goals try (conv=>whnf)
  simp
 rintro⟨k,hk,hn⟩
 repeat' ((conv=>whnf);first|with_reducible apply aQ|((with_reducible apply fk)<;>intro hc<;>try exact bF)|refine aM ?_|fail)
 ·have hlt:k<l.length:=by simpa using hc
  refine⟨_,dJ _ _ _ hlt,?_⟩;repeat' ((conv=>whnf);first|with_reducible apply aQ|((with_reducible apply fk)<;>intro hc<;>try exact bF)|(apply bC;refine⟨_,hp _ (List.getElem_mem hlt),?_⟩)|refine aM ?_|fail)
  ·repeat' first|apply And.intro|exact aK|fail
   all_goals try (conv=>whnf)
   exact (yG _ hlt hn hc).symm
  repeat' ((conv=>whnf);first|with_reducible apply aQ|((with_reducible apply fk)<;>intro hc<;>try exact bF)|refine aM ?_|fail)
  refine⟨⟨k+1,hlt,lJ hn fun _=>hc⟩,dec_lt hlt,ay ?_⟩;repeat' first|apply And.intro|exact aK|fail
  all_goals try (conv=>whnf)
  exact bE (by omega) (by omega)
 repeat' first|apply And.intro|exact aK|fail
 all_goals try (conv=>whnf)
 have:k=l.length:=by simp at hc;omega
 subst this;exact (mM _ (ve hn)).symm
theorem uK:bG prog 161 f161:=fF func161
theorem xK (l:List Wt)(f:FuncId)(first aT:List PV)(p:Wt→Bool)(hp:∀x∈l,dP prog f (first++([.agg x.c]++aT)) (bl (p x))) :
  dP prog 161 [nA l,.fn (.func f) first aT] (ii (qZ p l)):=by
 refine PC.le (nL uK fun hb=>?_);have hb:l.length≤9223372036854775807:=by simpa[F6,Ar,nA] using hb
 refine dW uK ?_;repeat' ((conv=>whnf);first|with_reducible apply aQ|((with_reducible apply fk)<;>intro hc<;>try exact bF)|refine aM ?_|fail)
 refine⟨{k:Nat // k≤l.length∧∀j (hj:j<l.length),j<k→p l[j]=false},fun⟨k,_⟩=>⟨[(0,.pv (nA l)),(1,.pv (.fn (.func f) first aT)),(7,.pv (ii l.length)),(8,.pv (ii k))],1000000000,[]⟩,fun⟨k,_⟩=>l.length-k,⟨⟨0,by simp⟩,ay ?_⟩,?_⟩
 ·repeat' first|apply And.intro|exact aK|fail
  all_goals try (conv=>whnf)
  simp
 rintro⟨k,hk,hn⟩
 repeat' ((conv=>whnf);first|with_reducible apply aQ|((with_reducible apply fk)<;>intro hc<;>try exact bF)|refine aM ?_|fail)
 ·have hlt:k<l.length:=by simpa using hc
  refine⟨_,dJ _ _ _ hlt,?_⟩;repeat' ((conv=>whnf);first|with_reducible apply aQ|((with_reducible apply fk)<;>intro hc<;>try exact bF)|(apply bC;refine⟨_,hp _ (List.getElem_mem hlt),?_⟩)|refine aM ?_|fail)
  ·repeat' first|apply And.intro|exact aK|fail
   all_goals try (conv=>whnf)
   exact (yG _ hlt hn hc).symm
  repeat' ((conv=>whnf);first|with_reducible apply aQ|((with_reducible apply fk)<;>intro hc<;>try exact bF)|refine aM ?_|fail)
  refine⟨⟨k+1,hlt,lJ hn fun _=>hc⟩,dec_lt hlt,ay ?_⟩;repeat' first|apply And.intro|exact aK|fail
  all_goals try (conv=>whnf)
  exact bE (by omega) (by omega)
 repeat' first|apply And.intro|exact aK|fail
 all_goals try (conv=>whnf)
 have:k=l.length:=by simp at hc;omega
 subst this;exact (mM _ (ve hn)).symm
theorem Qe:bG prog 116 f116:=fF func116
theorem Qf:bG prog 118 f118:=fF func118
theorem Qg:bG prog 119 f119:=fF func119
theorem Qh:bG prog 79 f79:=fF func79
theorem Ur (r:Rs)(x:Wt):dP prog 116 ([]++([.agg x.c]++[.dh r.c 0])) (bl (x.n==r.n)):=by
 refine PC.le ?_;refine dW Qe ?_;repeat' ((conv=>whnf);first|with_reducible apply aQ|((with_reducible apply fk)<;>intro hc<;>try exact bF)|refine aM ?_|fail)
 all_goals exact aK
theorem Us (r:Rs)(x:Pl):dP prog 118 ([]++([.agg x.c]++[.dh r.c 0])) (bl (x==r.from_)):=by
 refine PC.le ?_;refine dW Qf ?_;repeat' ((conv=>whnf);first|with_reducible apply aQ|((with_reducible apply fk)<;>intro hc<;>try exact bF)|refine aM ?_|fail)
 repeat' first|apply And.intro|exact aK|fail
 all_goals try (conv=>whnf)
 all_goals first
  |exact Pl.aaL _ _ _
  |skip
theorem Ut (r:Rs)(x:Pl):dP prog 119 ([]++([.agg x.c]++[.dh r.c 0])) (bl ((x.node==r.from_.node) && !(x.bf==r.from_.bf))):=by
 refine PC.le ?_;refine dW Qg ?_;repeat' ((conv=>whnf);first|with_reducible apply aQ|((with_reducible apply fk)<;>intro hc<;>try exact bF)|refine aM ?_|fail)
 all_goals (repeat' first|apply And.intro|exact aK|fail);(all_goals try (conv=>whnf))
 all_goals first
  |rfl
  |(simp_all;done)
  |(simp_all;rfl)
theorem Uu (y:Pl)(x:Pl):dP prog 79 ([]++([.agg x.c]++[.dh y.c 0])) (bl (x==y)):=by
 refine PC.le ?_;refine dW Qh ?_;repeat' ((conv=>whnf);first|with_reducible apply aQ|((with_reducible apply fk)<;>intro hc<;>try exact bF)|refine aM ?_|fail)
 repeat' first|apply And.intro|exact aK|fail
 all_goals try (conv=>whnf)
 all_goals first
  |exact Pl.aaL _ _ _
  |skip
theorem Qi:bG prog 133 f133:=fF func133
theorem Uv (w:Wr)(W B O:PV)(x:Wt)(hf:iN w.l.aj)(hx:eD x.n):dP prog 133 ([]++([.agg x.c]++[.dh [.dh (ZN w W B O) 0] 0])) (bl (bX w x)):=by
 have hs:=WR w W B O x.n hf hx;have ha:=Uc (bJ w x.n) w.l.a x.from_;refine PC.le ?_;unfold bX;generalize fT (bJ w x.n) w.l.a x.from_=u at *;generalize bJ w x.n=sw at *;cases u<;>cases e1:(w.change.first==0)
 all_goals
  refine dW Qi ?_;repeat' ((conv=>whnf);first|with_reducible apply aQ|((with_reducible apply fk)<;>intro hc<;>try exact bF)|(apply bC;refine⟨_,aL (hs) ?_,?_⟩;exact dx)|(apply bC;refine⟨_,aL (ha) ?_,?_⟩;exact dx)|refine aM ?_|fail)
  all_goals exact aK
 all_goals simp_all
theorem Uw:bG prog 162 f162:=fF func162
theorem NM (w:Wr)(W B O:PV)(x:Wt)(hf:iN w.l.aj)(hx:eD x.n):dP prog 162 ([]++([.agg x.c]++[.dh [.fn (.func 133) [] [.dh [.dh (ZN w W B O) 0] 0]] 0])) (bl (!(bX w x))):=by
 have hm:=Uv w W B O x hf hx;refine PC.le ?_;refine dW Uw ?_;repeat' ((conv=>whnf);first|with_reducible apply aQ|((with_reducible apply fk)<;>intro hc<;>try exact bF)|(apply bC;refine⟨_,aL (hm) ?_,?_⟩;exact dx)|refine aM ?_|fail)
 all_goals exact aK
theorem mY (l:List Fr)(h:0<l.length)(hb:l.length≤1000000):∃k:Nat,k<l.length∧IntKind.i64.wrap (((l.map Fr.c).length:Int)-1)=((k:Nat):Int)∧(l.map Fr.c)[((k:Nat):Int).toNat]? = some (aO l).c:=by
 obtain⟨k,hk,h1,h2⟩:=CV l h;refine⟨k,hk,?_,?_⟩
 ·rw[List.length_map,bE (by omega) (by omega)];omega
 rw[h2];exact dJ Fr.c l k hk
theorem Ux (w:Wr)(oC rb:List (List PV))(hl:w.l.aj.length≤1000000):lg prog 82 [.ptr 1 0] ((1,.var (nC w (.pv (eT w.l.aj)) (.pv (.sl false 5 oC)) (.pv (.sl false 2 rb)) (.pv dV)))::[]) (.pv (.agg (aO w.l.aj).c)) ((1,.var (nC w (.pv (eT w.l.aj)) (.pv (.sl false 5 oC)) (.pv (.sl false 2 rb)) (.pv dV)))::[]):=by
 by_cases h0:0<w.l.aj.length
 ·obtain⟨k,hk,eI,hr⟩:=mY _ h0 hl;obtain⟨lf,iH⟩:∃lf,aO w.l.aj=lf:=⟨_,rfl⟩;rw[iH] at hr ⊢;have d0:decide (((w.l.aj.map Fr.c).length:Int)>0)=true:=by simp only[fe,kU];omega
  have hkm:k<(w.l.aj.map Fr.c).length:=by rw[List.length_map];exact hk
  clear iH;refine nD kZ ?_;repeat' ((conv=>whnf);first|with_reducible apply aQ|((with_reducible apply fk)<;>intro hc<;>try exact bF)|rewrite[eI]|((refine⟨_,hr,?_⟩))|(((with_reducible apply And.intro);focus (rw[Int.toNat_natCast];exact hkm)))|refine aM ?_|fail)
  refine⟨_,_,⟨rfl,rfl⟩,?_⟩;all_goals exact aK
 have h1:w.l.aj=[]:=List.eq_nil_of_length_eq_zero (by omega);rw[h1];rw[mX];have d0:decide ((([]:List Fr).map Fr.c).length>0)=false:=by rfl
 refine nD kZ ?_;repeat' ((conv=>whnf);first|with_reducible apply aQ|((with_reducible apply fk)<;>intro hc<;>try exact bF)|refine aM ?_|fail)
 refine⟨_,_,⟨rfl,rfl⟩,?_⟩;repeat' first|apply And.intro|exact aK|fail
 all_goals try (conv=>whnf)
 all_goals (first|exact rfl|(rw[h1];exact aC _)|skip)
theorem Uy (w:Wr)(oC rb:List (List PV))(hl:w.l.aj.length≤1000000):lg prog 82 [.ptr 1 0] ((1,.var (nC w (.pv (eT w.l.aj)) (.pv (.sl false 5 oC)) (.aZ 2 0) (.pv dV)))::[(2,.arr 27 0 2 rb)]) (.pv (.agg (aO w.l.aj).c)) ((1,.var (nC w (.pv (eT w.l.aj)) (.pv (.sl false 5 oC)) (.aZ 2 0) (.pv dV)))::[(2,.arr 27 0 2 rb)]):=by
 by_cases h0:0<w.l.aj.length
 ·obtain⟨k,hk,eI,hr⟩:=mY _ h0 hl;obtain⟨lf,iH⟩:∃lf,aO w.l.aj=lf:=⟨_,rfl⟩;rw[iH] at hr ⊢;have d0:decide (((w.l.aj.map Fr.c).length:Int)>0)=true:=by simp only[fe,kU];omega
  have hkm:k<(w.l.aj.map Fr.c).length:=by rw[List.length_map];exact hk
  clear iH;refine nD kZ ?_;repeat' ((conv=>whnf);first|with_reducible apply aQ|((with_reducible apply fk)<;>intro hc<;>try exact bF)|rewrite[eI]|((refine⟨_,hr,?_⟩))|(((with_reducible apply And.intro);focus (rw[Int.toNat_natCast];exact hkm)))|refine aM ?_|fail)
  refine⟨_,_,⟨rfl,rfl⟩,?_⟩;all_goals exact aK
 have h1:w.l.aj=[]:=List.eq_nil_of_length_eq_zero (by omega);rw[h1];rw[mX];have d0:decide ((([]:List Fr).map Fr.c).length>0)=false:=by rfl
 refine nD kZ ?_;repeat' ((conv=>whnf);first|with_reducible apply aQ|((with_reducible apply fk)<;>intro hc<;>try exact bF)|refine aM ?_|fail)
 refine⟨_,_,⟨rfl,rfl⟩,?_⟩;repeat' first|apply And.intro|exact aK|fail
 all_goals try (conv=>whnf)
 all_goals (first|exact rfl|(rw[h1];exact aC _)|skip)
theorem Uz (w:Wr)(oC rb ro:List (List PV))(hl:w.l.aj.length≤1000000):lg prog 82 [.ptr 1 0] ((1,.var (nC w (.pv (eT w.l.aj)) (.aZ 2 0) (.aZ 3 0) (.aZ 4 0)))::[(2,.arr 145 0 5 oC),(3,.arr 27 0 2 rb),(4,.arr 93 0 10 ro)]) (.pv (.agg (aO w.l.aj).c)) ((1,.var (nC w (.pv (eT w.l.aj)) (.aZ 2 0) (.aZ 3 0) (.aZ 4 0)))::[(2,.arr 145 0 5 oC),(3,.arr 27 0 2 rb),(4,.arr 93 0 10 ro)]):=by
 by_cases h0:0<w.l.aj.length
 ·obtain⟨k,hk,eI,hr⟩:=mY _ h0 hl;obtain⟨lf,iH⟩:∃lf,aO w.l.aj=lf:=⟨_,rfl⟩;rw[iH] at hr ⊢;have d0:decide (((w.l.aj.map Fr.c).length:Int)>0)=true:=by simp only[fe,kU];omega
  have hkm:k<(w.l.aj.map Fr.c).length:=by rw[List.length_map];exact hk
  clear iH;refine nD kZ ?_;repeat' ((conv=>whnf);first|with_reducible apply aQ|((with_reducible apply fk)<;>intro hc<;>try exact bF)|rewrite[eI]|((refine⟨_,hr,?_⟩))|(((with_reducible apply And.intro);focus (rw[Int.toNat_natCast];exact hkm)))|refine aM ?_|fail)
  refine⟨_,_,⟨rfl,rfl⟩,?_⟩;all_goals exact aK
 have h1:w.l.aj=[]:=List.eq_nil_of_length_eq_zero (by omega);rw[h1];rw[mX];have d0:decide ((([]:List Fr).map Fr.c).length>0)=false:=by rfl
 refine nD kZ ?_;repeat' ((conv=>whnf);first|with_reducible apply aQ|((with_reducible apply fk)<;>intro hc<;>try exact bF)|refine aM ?_|fail)
 refine⟨_,_,⟨rfl,rfl⟩,?_⟩;repeat' first|apply And.intro|exact aK|fail
 all_goals try (conv=>whnf)
 all_goals (first|exact rfl|(rw[h1];exact aC _)|skip)
theorem UA (w:Wr)(oC rb:List (List PV))(hl:w.l.aj.length≤1000000):lg prog 82 [.ptr 1 0] ((1,.var (nC w (.aZ 2 0) (.aZ 3 0) (.pv (.sl false 2 rb)) (.pv dV)))::[(2,.arr 48 0 2 (w.l.aj.map Fr.c)),(3,.arr 145 0 5 oC)]) (.pv (.agg (aO w.l.aj).c)) ((1,.var (nC w (.aZ 2 0) (.aZ 3 0) (.pv (.sl false 2 rb)) (.pv dV)))::[(2,.arr 48 0 2 (w.l.aj.map Fr.c)),(3,.arr 145 0 5 oC)]):=by
 by_cases h0:0<w.l.aj.length
 ·obtain⟨k,hk,eI,hr⟩:=mY _ h0 hl;obtain⟨lf,iH⟩:∃lf,aO w.l.aj=lf:=⟨_,rfl⟩;rw[iH] at hr ⊢;have d0:decide (((w.l.aj.map Fr.c).length:Int)>0)=true:=by simp only[fe,kU];omega
  have hkm:k<(w.l.aj.map Fr.c).length:=by rw[List.length_map];exact hk
  clear iH;refine nD kZ ?_;repeat' ((conv=>whnf);first|with_reducible apply aQ|((with_reducible apply fk)<;>intro hc<;>try exact bF)|rewrite[eI]|((refine⟨_,hr,?_⟩))|(((with_reducible apply And.intro);focus (rw[Int.toNat_natCast];exact hkm)))|refine aM ?_|fail)
  refine⟨_,_,⟨rfl,rfl⟩,?_⟩;all_goals exact aK
 have h1:w.l.aj=[]:=List.eq_nil_of_length_eq_zero (by omega);rw[h1];rw[mX];have d0:decide ((([]:List Fr).map Fr.c).length>0)=false:=by rfl
 refine nD kZ ?_;repeat' ((conv=>whnf);first|with_reducible apply aQ|((with_reducible apply fk)<;>intro hc<;>try exact bF)|refine aM ?_|fail)
 refine⟨_,_,⟨rfl,rfl⟩,?_⟩;repeat' first|apply And.intro|exact aK|fail
 all_goals try (conv=>whnf)
 all_goals (first|exact rfl|(rw[h1];exact aC _)|skip)
theorem NP:bG prog 78 f78:=fF func78
theorem zV (is:Pl→Bool):∀(l b:List Pl),l.foldl (fun b x=>if is x && !bI b x then b++[x] else b) b=fD is b l
 |[],b=>rfl
 | p::l,b=>by
   rw[List.foldl_cons,fD];exact zV is l _
theorem xL (w:Wr)(is:Pl→Bool):(nk w is).bad=fD is w.bad (aO w.l.aj).ah:=zV is _ _
theorem NQ (w:Wr)(oC:List (List PV))(f:FuncId)(row:List PV)(is:Pl→Bool)(hp:∀y,dP prog f ([]++([.agg (Pl.c y)]++[.dh row 0])) (bl (is y)))(hfl:w.l.aj.length≤1000000)(hl:w.bad.length≤1000000)(hw:(aO w.l.aj).ah.length≤1000) :
  lg prog 78 [.ptr 1 0,.pv (.fn (.func f) [] [.dh row 0])] [(1,.var (nC w (.pv (eT w.l.aj)) (.pv (.sl false 5 oC)) (.aZ 2 0) (.pv dV))),(2,.arr 27 0 2 (w.bad.map Pl.c))] (.pv (.fM []))
   [(1,.var (nC w (.pv (eT w.l.aj)) (.pv (.sl false 5 oC)) (.aZ 1001 0) (.pv dV))),(2,.gD 1 2 []),(1001,.arr 27 0 2 ((nk w is).bad.map Pl.c))]:=by
 have hla:=Uy w oC (w.bad.map Pl.c) hfl;rw[xL];obtain⟨lf,iH⟩:∃lf,aO w.l.aj=lf:=⟨_,rfl⟩;rw[iH] at hw hla ⊢;clear iH hfl;obtain⟨wr,hwr⟩:∃wr,lf.ah=wr:=⟨_,rfl⟩;have UB:lf.c=[uu lf.first,dO wr]:=by rw[←hwr];rfl
 rw[UB] at hla;rw[hwr] at hw ⊢;clear hwr UB;refine Ce 2 1777 rfl ?_;show GC _ _ [.ptr 1 0,.pv (.fn (.func f) [] [.dh row 0])] [(1777,.arr 27 0 2 (w.bad.map Pl.c)),(1,.var (nC w (.pv (eT w.l.aj)) (.pv (.sl false 5 oC)) (.aZ 1777 0) (.pv dV))),(2,.gD 1 2 [])] _
 refine nD NP ?_;repeat' ((conv=>whnf);first|with_reducible apply aQ|((with_reducible apply fk)<;>intro hc<;>try exact bF)|rewrite[qO]|rewrite[qP]|(apply iC;refine⟨_,_,aN (hla) ?_,?_⟩;exact dx)|refine aM ?_|fail)
 refine⟨{k:Nat // k≤wr.length},fun⟨k,_⟩=>⟨[(0,.ptr 1 0),(1,.pv (.fn (.func f) [] [.dh row 0])),(8,.pv (dO wr)),(9,.pv (ii wr.length)),(10,.pv (ii k))],1000000000,[(1,.var (nC w (.pv (eT w.l.aj)) (.pv (.sl false 5 oC)) (.aZ 1001 0) (.pv dV))),(2,.gD 1 2 []),(1001,.arr 27 0 2 ((fD is w.bad (wr.take k)).map Pl.c))]⟩,fun⟨k,_⟩=>wr.length-k,⟨⟨0,Nat.zero_le _⟩,ay ?_⟩,?_⟩
 ·repeat' first|apply And.intro|exact aK|fail
  all_goals try (conv=>whnf)
  all_goals simp
 rintro⟨k,hk⟩
 clear hla;by_cases hlt:k<wr.length
 ·have d0:decide ((k:Int)<(wr.length:Int))=true:=by simp only[kU];omega
  have eW:IntKind.i64.wrap ((k:Int)+1)=((k+1:Nat):Int):=by rw[bE (by omega) (by omega)];omega
  have hq:=zD is w.bad wr k hlt;have hq2:(is wr[k] && !(fD is w.bad (wr.take k)).any (· == wr[k]))=false→fD is w.bad (wr.take (k+1))=fD is w.bad (wr.take k):=fun e=>by rw[hq,e];rfl
  have hal:=qy is (wr.take k) w.bad;have htl:(wr.take k).length≤1000:=by rw[List.length_take];omega
  repeat' ((conv=>whnf);first|with_reducible apply aQ|((with_reducible apply fk)<;>intro hc<;>try exact bF)|((refine⟨_,dJ _ _ _ hlt,?_⟩))|(apply bC;refine⟨_,hp _,?_⟩)|(apply bC;refine⟨_,bS _ _ _,?_⟩)|(((with_reducible apply And.intro);focus (simp only[fe,mH,mI] at *;omega)))|refine aM ?_|fail)
  all_goals
   refine⟨⟨k+1,hlt⟩,dec_lt hlt,ay ?_⟩;repeat' first|apply And.intro|exact aK|fail
   all_goals try (conv=>whnf)
  all_goals
   first
    |exact eW
    | (rw[hq,if_pos (by simp only[Bool.and_eq_true];exact⟨by assumption,by assumption⟩),List.map_append]
       refine dH (aC _) ?_
       (repeat' first|apply And.intro|exact aK|fail);(all_goals try (conv=>whnf)))
    |(rw[hq2 (by rw[show is wr[k]=false from by assumption];rfl)];exact aC _)
    |(rw[hq2 (by rw[show (!(fD is w.bad (List.take k wr)).any fun y=>y==wr[k])=false from by assumption];exact Bool.and_false _)];exact aC _)
 have hke:k=wr.length:=by omega
 subst hke;have d0:decide ((wr.length:Int)<(wr.length:Int))=false:=by simp
 repeat' ((conv=>whnf);first|with_reducible apply aQ|((with_reducible apply fk)<;>intro hc<;>try exact bF)|refine aM ?_|fail)
 refine⟨_,_,⟨rfl,rfl⟩,?_⟩;repeat' first|apply And.intro|exact aK|fail
 all_goals try (conv=>whnf)
 rw[List.take_length];exact aC _
theorem WS (w:Wr)(oC ro:List (List PV))(f:FuncId)(row:List PV)(is:Pl→Bool)(hp:∀y,dP prog f ([]++([.agg (Pl.c y)]++[.dh row 0])) (bl (is y)))(hfl:w.l.aj.length≤1000000)(hl:w.bad.length≤1000000)(hw:(aO w.l.aj).ah.length≤1000) :
  lg prog 78 [.ptr 1 0,.pv (.fn (.func f) [] [.dh row 0])] [(1,.var (nC w (.pv (eT w.l.aj)) (.aZ 2 0) (.aZ 3 0) (.aZ 4 0))),(2,.arr 145 0 5 oC),(3,.arr 27 0 2 (w.bad.map Pl.c)),(4,.arr 93 0 10 ro)] (.pv (.fM []))
   [(1,.var (nC w (.pv (eT w.l.aj)) (.aZ 2 0) (.aZ 1001 0) (.aZ 4 0))),(2,.arr 145 0 5 oC),(3,.gD 1 2 []),(4,.arr 93 0 10 ro),(1001,.arr 27 0 2 ((nk w is).bad.map Pl.c))]:=by
 have hla:=Uz w oC (w.bad.map Pl.c) ro hfl;rw[xL];obtain⟨lf,iH⟩:∃lf,aO w.l.aj=lf:=⟨_,rfl⟩;rw[iH] at hw hla ⊢;clear iH hfl;obtain⟨wr,hwr⟩:∃wr,lf.ah=wr:=⟨_,rfl⟩;have UB:lf.c=[uu lf.first,dO wr]:=by rw[←hwr];rfl
 rw[UB] at hla;rw[hwr] at hw ⊢;clear hwr UB;refine Ce 3 1777 rfl ?_;show GC _ _ [.ptr 1 0,.pv (.fn (.func f) [] [.dh row 0])] [(1777,.arr 27 0 2 (w.bad.map Pl.c)),(1,.var (nC w (.pv (eT w.l.aj)) (.aZ 2 0) (.aZ 1777 0) (.aZ 4 0))),(2,.arr 145 0 5 oC),(3,.gD 1 2 []),(4,.arr 93 0 10 ro)] _
 refine nD NP ?_;repeat' ((conv=>whnf);first|with_reducible apply aQ|((with_reducible apply fk)<;>intro hc<;>try exact bF)|rewrite[qO]|rewrite[qP]|(apply iC;refine⟨_,_,aN (hla) ?_,?_⟩;exact dx)|refine aM ?_|fail)
 refine⟨{k:Nat // k≤wr.length},fun⟨k,_⟩=>⟨[(0,.ptr 1 0),(1,.pv (.fn (.func f) [] [.dh row 0])),(8,.pv (dO wr)),(9,.pv (ii wr.length)),(10,.pv (ii k))],1000000000,[(1,.var (nC w (.pv (eT w.l.aj)) (.aZ 2 0) (.aZ 1001 0) (.aZ 4 0))),(2,.arr 145 0 5 oC),(3,.gD 1 2 []),(4,.arr 93 0 10 ro),(1001,.arr 27 0 2 ((fD is w.bad (wr.take k)).map Pl.c))]⟩,fun⟨k,_⟩=>wr.length-k,⟨⟨0,Nat.zero_le _⟩,ay ?_⟩,?_⟩
 ·repeat' first|apply And.intro|exact aK|fail
  all_goals try (conv=>whnf)
  all_goals simp
 rintro⟨k,hk⟩
 clear hla;by_cases hlt:k<wr.length
 ·have d0:decide ((k:Int)<(wr.length:Int))=true:=by simp only[kU];omega
  have eW:IntKind.i64.wrap ((k:Int)+1)=((k+1:Nat):Int):=by rw[bE (by omega) (by omega)];omega
  have hq:=zD is w.bad wr k hlt;have hq2:(is wr[k] && !(fD is w.bad (wr.take k)).any (· == wr[k]))=false→fD is w.bad (wr.take (k+1))=fD is w.bad (wr.take k):=fun e=>by rw[hq,e];rfl
  have hal:=qy is (wr.take k) w.bad;have htl:(wr.take k).length≤1000:=by rw[List.length_take];omega
  repeat' ((conv=>whnf);first|with_reducible apply aQ|((with_reducible apply fk)<;>intro hc<;>try exact bF)|((refine⟨_,dJ _ _ _ hlt,?_⟩))|(apply bC;refine⟨_,hp _,?_⟩)|(apply bC;refine⟨_,bS _ _ _,?_⟩)|(((with_reducible apply And.intro);focus (simp only[fe,mH,mI] at *;omega)))|refine aM ?_|fail)
  all_goals
   refine⟨⟨k+1,hlt⟩,dec_lt hlt,ay ?_⟩;repeat' first|apply And.intro|exact aK|fail
   all_goals try (conv=>whnf)
  all_goals
   first
    |exact eW
    | (rw[hq,if_pos (by simp only[Bool.and_eq_true];exact⟨by assumption,by assumption⟩),List.map_append]
       refine dH (aC _) ?_
       (repeat' first|apply And.intro|exact aK|fail);(all_goals try (conv=>whnf)))
    |(rw[hq2 (by rw[show is wr[k]=false from by assumption];rfl)];exact aC _)
    |(rw[hq2 (by rw[show (!(fD is w.bad (List.take k wr)).any fun y=>y==wr[k])=false from by assumption];exact Bool.and_false _)];exact aC _)
 have hke:k=wr.length:=by omega
 subst hke;have d0:decide ((wr.length:Int)<(wr.length:Int))=false:=by simp
 repeat' ((conv=>whnf);first|with_reducible apply aQ|((with_reducible apply fk)<;>intro hc<;>try exact bF)|refine aM ?_|fail)
 refine⟨_,_,⟨rfl,rfl⟩,?_⟩;repeat' first|apply And.intro|exact aK|fail
 all_goals try (conv=>whnf)
 rw[List.take_length];exact aC _
end Go.Proofs.YtfoiekbkkbnpkaaGreat.Tb
end
