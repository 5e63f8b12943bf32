/-
  Contracts of functions of the program and of the document, each for every input that its premises name.
-/
import Derived.Test.YtfoiekbkkbnpkaaGreatAe
import Derived.Test.YtfoiekbkkbnpkaaGreatChecked
import Derived.KernelRfl
import Derived.Test.YtfoiekbkkbnpkaaGreatAf
set_option linter.unusedSectionVars false
set_option linter.unusedVariables false
set_option linter.unusedSimpArgs false
set_option maxRecDepth 100000
set_option maxHeartbeats 4000000
set_option linter.unnecessarySimpa false
section
open Go Go.Proofs.Tryz Go.AX
namespace Go.Proofs.YtfoiekbkkbnpkaaGreat.Tb
def i3:TI:=⟨1,8,[.int .i64 0],.q8 .i64,none⟩
theorem o3:bD prog 3 i3:=⟨by kernel_rfl,by kernel_rfl,rfl,by kernel_rfl,(fun _=>rfl),by kernel_rfl,(fun ks h=>(by cases h))⟩
def i4:TI:=⟨1,1,[.bool false],.NE,none⟩
theorem o4:bD prog 4 i4:=⟨by kernel_rfl,by kernel_rfl,rfl,by kernel_rfl,(fun _=>rfl),by kernel_rfl,(fun ks h=>(by cases h))⟩
def i5:TI:=⟨1,1,[.int .u8 0],.q8 .u8,none⟩
theorem o5:bD prog 5 i5:=⟨by kernel_rfl,by kernel_rfl,rfl,by kernel_rfl,(fun _=>rfl),by kernel_rfl,(fun ks h=>(by cases h))⟩
def i9:TI:=⟨1,16,[.string ByteArray.empty],.D9,none⟩
theorem o9:bD prog 9 i9:=⟨by kernel_rfl,by kernel_rfl,rfl,by kernel_rfl,(fun _=>rfl),by kernel_rfl,(fun ks h=>(by cases h))⟩
def i22:TI:=⟨1,8,[.int .u64 0],.q8 .u64,none⟩
theorem o22:bD prog 22 i22:=⟨by kernel_rfl,by kernel_rfl,rfl,by kernel_rfl,(fun _=>rfl),by kernel_rfl,(fun ks h=>(by cases h))⟩
def i23:TI:=⟨1,24,[.slice none 0 0],.slt 48,none⟩
theorem o23:bD prog 23 i23:=⟨by kernel_rfl,by kernel_rfl,rfl,by kernel_rfl,(fun _=>rfl),by kernel_rfl,(fun ks h=>(by cases h))⟩
def i25:TI:=⟨6,64,[.int .u64 0,.int .i64 0,.int .i64 0,.slice none 0 0,.int .i64 0,.int .u64 0],.str [(0,22),(1,3),(2,3),(3,23),(4,3),(5,22)],none⟩
theorem o25:bD prog 25 i25:=⟨by kernel_rfl,by kernel_rfl,rfl,by kernel_rfl,(fun h=>(by cases h)),by kernel_rfl,(fun ks h=>(by cases h))⟩
def i27:TI:=⟨2,16,[.int .i64 0,.int .u64 0],.str [(0,3),(1,22)],some [.int .i64,.int .u64]⟩
theorem o27:bD prog 27 i27:=⟨by kernel_rfl,by kernel_rfl,rfl,by kernel_rfl,(fun h=>(by cases h)),by kernel_rfl,(fun ks h=>(by cases h;exact⟨eO (by kernel_rfl) (by kernel_rfl),(by kernel_rfl)⟩))⟩
def i28:TI:=⟨1,24,[.slice none 0 0],.slt 27,none⟩
theorem o28:bD prog 28 i28:=⟨by kernel_rfl,by kernel_rfl,rfl,by kernel_rfl,(fun _=>rfl),by kernel_rfl,(fun ks h=>(by cases h))⟩
def i29:TI:=⟨1,24,[.slice none 0 0],.slt 5,none⟩
theorem o29:bD prog 29 i29:=⟨by kernel_rfl,by kernel_rfl,rfl,by kernel_rfl,(fun _=>rfl),by kernel_rfl,(fun ks h=>(by cases h))⟩
def i31:TI:=⟨16,176,[.int .u64 0,.int .i64 0,.int .i64 0,.slice none 0 0,.int .i64 0,.int .u64 0,.int .i64 0,.int .u64 0,.int .i64 0,.int .u64 0,.int .i64 0,.int .u64 0,.slice none 0 0,.slice none 0 0,.int .u64 0,.int .u64 0],.str [(0,25),(6,27),(8,27),(10,3),(11,22),(12,28),(13,29),(14,22),(15,22)],none⟩
theorem o31:bD prog 31 i31:=⟨by kernel_rfl,by kernel_rfl,rfl,by kernel_rfl,(fun h=>(by cases h)),by kernel_rfl,(fun ks h=>(by cases h))⟩
def i33:TI:=⟨9,88,[.int .i64 0,.int .u64 0,.int .i64 0,.int .i64 0,.int .u64 0,.int .u64 0,.int .u64 0,.int .u64 0,.slice none 0 0],.str [(0,27),(2,3),(3,3),(4,22),(5,22),(6,22),(7,22),(8,29)],none⟩
theorem o33:bD prog 33 i33:=⟨by kernel_rfl,by kernel_rfl,rfl,by kernel_rfl,(fun h=>(by cases h)),by kernel_rfl,(fun ks h=>(by cases h))⟩
def i38:TI:=⟨1,24,[.slice none 0 0],.slt 93,none⟩
theorem o38:bD prog 38 i38:=⟨by kernel_rfl,by kernel_rfl,rfl,by kernel_rfl,(fun _=>rfl),by kernel_rfl,(fun ks h=>(by cases h))⟩
def i44:TI:=⟨1,24,[.slice none 0 0],.slt 63,none⟩
theorem o44:bD prog 44 i44:=⟨by kernel_rfl,by kernel_rfl,rfl,by kernel_rfl,(fun _=>rfl),by kernel_rfl,(fun ks h=>(by cases h))⟩
def i46:TI:=⟨1,24,[.slice none 0 0],.slt 145,none⟩
theorem o46:bD prog 46 i46:=⟨by kernel_rfl,by kernel_rfl,rfl,by kernel_rfl,(fun _=>rfl),by kernel_rfl,(fun ks h=>(by cases h))⟩
def i48:TI:=⟨2,32,[.int .u64 0,.slice none 0 0],.str [(0,22),(1,28)],none⟩
theorem o48:bD prog 48 i48:=⟨by kernel_rfl,by kernel_rfl,rfl,by kernel_rfl,(fun h=>(by cases h)),by kernel_rfl,(fun ks h=>(by cases h))⟩
def i50:TI:=⟨14,176,[.int .u64 0,.int .i64 0,.int .i64 0,.slice none 0 0,.int .i64 0,.int .u64 0,.int .u64 0,.int .u64 0,.int .u64 0,.slice none 0 0,.slice none 0 0,.int .u64 0,.slice none 0 0,.int .i64 0],.str [(0,25),(6,22),(7,22),(8,22),(9,46),(10,28),(11,48),(13,3)],none⟩
theorem o50:bD prog 50 i50:=⟨by kernel_rfl,by kernel_rfl,rfl,by kernel_rfl,(fun h=>(by cases h)),by kernel_rfl,(fun ks h=>(by cases h))⟩
def i51:TI:=⟨1,8,[.int .i64 0],.q8 .i64,none⟩
theorem o51:bD prog 51 i51:=⟨by kernel_rfl,by kernel_rfl,rfl,by kernel_rfl,(fun _=>rfl),by kernel_rfl,(fun ks h=>(by cases h))⟩
def i55:TI:=⟨1,8,[.pointer none],.zV 61,none⟩
theorem o55:bD prog 55 i55:=⟨by kernel_rfl,by kernel_rfl,rfl,by kernel_rfl,(fun _=>rfl),by kernel_rfl,(fun ks h=>(by cases h))⟩
def i57:TI:=⟨1,24,[.slice none 0 0],.slt 136,none⟩
theorem o57:bD prog 57 i57:=⟨by kernel_rfl,by kernel_rfl,rfl,by kernel_rfl,(fun _=>rfl),by kernel_rfl,(fun ks h=>(by cases h))⟩
def i58:TI:=⟨1,24,[.slice none 0 0],.slt 140,none⟩
theorem o58:bD prog 58 i58:=⟨by kernel_rfl,by kernel_rfl,rfl,by kernel_rfl,(fun _=>rfl),by kernel_rfl,(fun ks h=>(by cases h))⟩
def i59:TI:=⟨1,24,[.slice none 0 0],.slt 9,none⟩
theorem o59:bD prog 59 i59:=⟨by kernel_rfl,by kernel_rfl,rfl,by kernel_rfl,(fun _=>rfl),by kernel_rfl,(fun ks h=>(by cases h))⟩
def i61:TI:=⟨22,320,[.int .u64 0,.int .i64 0,.int .i64 0,.slice none 0 0,.int .i64 0,.int .u64 0,.int .u64 0,.int .u64 0,.int .u64 0,.slice none 0 0,.slice none 0 0,.int .u64 0,.slice none 0 0,.int .i64 0,.slice none 0 0,.int .u64 0,.slice none 0 0,.int .i64 0,.int .u64 0,.slice none 0 0,.slice none 0 0,.slice none 0 0],.str [(0,50),(14,23),(15,48),(17,3),(18,22),(19,57),(20,58),(21,59)],none⟩
theorem o61:bD prog 61 i61:=⟨by kernel_rfl,by kernel_rfl,rfl,by kernel_rfl,(fun h=>(by cases h)),by kernel_rfl,(fun ks h=>(by cases h))⟩
def i63:TI:=⟨8,96,[.int .i64 0,.int .i64 0,.int .i64 0,.int .i64 0,.int .i64 0,.int .i64 0,.slice none 0 0,.slice none 0 0],.str [(0,3),(1,3),(2,3),(3,3),(4,3),(5,3),(6,29),(7,28)],none⟩
theorem o63:bD prog 63 i63:=⟨by kernel_rfl,by kernel_rfl,rfl,by kernel_rfl,(fun h=>(by cases h)),by kernel_rfl,(fun ks h=>(by cases h))⟩
def i75:TI:=⟨1,24,[.slice none 0 0],.slt 81,none⟩
theorem o75:bD prog 75 i75:=⟨by kernel_rfl,by kernel_rfl,rfl,by kernel_rfl,(fun _=>rfl),by kernel_rfl,(fun ks h=>(by cases h))⟩
def i77:TI:=⟨1,8,[.pointer none],.zV 89,none⟩
theorem o77:bD prog 77 i77:=⟨by kernel_rfl,by kernel_rfl,rfl,by kernel_rfl,(fun _=>rfl),by kernel_rfl,(fun ks h=>(by cases h))⟩
def i81:TI:=⟨7,88,[.int .i64 0,.int .i64 0,.int .i64 0,.int .i64 0,.int .i64 0,.slice none 0 0,.slice none 0 0],.str [(0,3),(1,3),(2,3),(3,3),(4,3),(5,29),(6,28)],none⟩
theorem o81:bD prog 81 i81:=⟨by kernel_rfl,by kernel_rfl,rfl,by kernel_rfl,(fun h=>(by cases h)),by kernel_rfl,(fun ks h=>(by cases h))⟩
def i84:TI:=⟨18,256,[.int .u64 0,.int .i64 0,.int .i64 0,.slice none 0 0,.int .i64 0,.int .u64 0,.int .u64 0,.int .i64 0,.slice none 0 0,.int .u64 0,.int .u64 0,.slice none 0 0,.slice none 0 0,.slice none 0 0,.slice none 0 0,.slice none 0 0,.int .u64 0,.int .u64 0],.str [(0,25),(6,22),(7,3),(8,28),(9,22),(10,22),(11,28),(12,28),(13,29),(14,23),(15,28),(16,22),(17,22)],none⟩
theorem o84:bD prog 84 i84:=⟨by kernel_rfl,by kernel_rfl,rfl,by kernel_rfl,(fun h=>(by cases h)),by kernel_rfl,(fun ks h=>(by cases h))⟩
def i85:TI:=⟨1,24,[.slice none 0 0],.slt 95,none⟩
theorem o85:bD prog 85 i85:=⟨by kernel_rfl,by kernel_rfl,rfl,by kernel_rfl,(fun _=>rfl),by kernel_rfl,(fun ks h=>(by cases h))⟩
def i86:TI:=⟨1,24,[.slice none 0 0],.slt 202,none⟩
theorem o86:bD prog 86 i86:=⟨by kernel_rfl,by kernel_rfl,rfl,by kernel_rfl,(fun _=>rfl),by kernel_rfl,(fun ks h=>(by cases h))⟩
def i87:TI:=⟨1,24,[.slice none 0 0],.slt 221,none⟩
theorem o87:bD prog 87 i87:=⟨by kernel_rfl,by kernel_rfl,rfl,by kernel_rfl,(fun _=>rfl),by kernel_rfl,(fun ks h=>(by cases h))⟩
def i89:TI:=⟨49,680,[.int .u64 0,.int .i64 0,.int .i64 0,.slice none 0 0,.int .i64 0,.int .u64 0,.int .u64 0,.int .i64 0,.int .i64 0,.slice none 0 0,.int .i64 0,.int .u64 0,.int .u64 0,.int .u64 0,.int .u64 0,.slice none 0 0,.slice none 0 0,.int .u64 0,.slice none 0 0,.int .i64 0,.int .u64 0,.int .i64 0,.int .i64 0,.slice none 0 0,.int .i64 0,.int .u64 0,.int .u64 0,.int .i64 0,.slice none 0 0,.int .u64 0,.int .u64 0,.slice none 0 0,.slice none 0 0,.slice none 0 0,.slice none 0 0,.slice none 0 0,.int .u64 0,.int .u64 0,.int .u64 0,.int .u64 0,.int .u64 0,.slice none 0 0,.bool false,.int .u64 0,.slice none 0 0,.slice none 0 0,.slice none 0 0,.slice none 0 0,.slice none 0 0],.str [(0,25),(6,50),(20,84),(38,22),(39,22),(40,48),(42,4),(43,22),(44,85),(45,86),(46,86),(47,87),(48,59)],none⟩
theorem o89:bD prog 89 i89:=⟨by kernel_rfl,by kernel_rfl,rfl,by kernel_rfl,(fun h=>(by cases h)),by kernel_rfl,(fun ks h=>(by cases h))⟩
def i91:TI:=⟨1,24,[.slice none 0 0],.slt 22,none⟩
theorem o91:bD prog 91 i91:=⟨by kernel_rfl,by kernel_rfl,rfl,by kernel_rfl,(fun _=>rfl),by kernel_rfl,(fun ks h=>(by cases h))⟩
def i93:TI:=⟨10,112,[.int .i64 0,.int .u64 0,.int .i64 0,.int .u64 0,.int .u64 0,.int .u64 0,.int .u64 0,.int .i64 0,.slice none 0 0,.slice none 0 0],.str [(0,27),(2,3),(3,22),(4,22),(5,22),(6,22),(7,3),(8,29),(9,91)],none⟩
theorem o93:bD prog 93 i93:=⟨by kernel_rfl,by kernel_rfl,rfl,by kernel_rfl,(fun h=>(by cases h)),by kernel_rfl,(fun ks h=>(by cases h))⟩
def i95:TI:=⟨21,216,[.bool false,.int .u64 0,.int .i64 0,.int .u64 0,.int .i64 0,.int .u64 0,.int .u64 0,.int .u64 0,.int .u64 0,.int .i64 0,.slice none 0 0,.slice none 0 0,.int .i64 0,.int .u64 0,.int .i64 0,.int .i64 0,.int .u64 0,.int .u64 0,.int .u64 0,.int .u64 0,.slice none 0 0],.str [(0,4),(1,22),(2,93),(12,33)],none⟩
theorem o95:bD prog 95 i95:=⟨by kernel_rfl,by kernel_rfl,rfl,by kernel_rfl,(fun h=>(by cases h)),by kernel_rfl,(fun ks h=>(by cases h))⟩
def WT:TI:=⟨1,24,[.slice none 0 0],.slt 25,none⟩
theorem Zf:bD prog 104 WT:=⟨by kernel_rfl,by kernel_rfl,rfl,by kernel_rfl,(fun _=>rfl),by kernel_rfl,(fun ks h=>(by cases h))⟩
def i105:TI:=⟨1,24,[.slice none 0 0],.slt 274,none⟩
theorem Zg:bD prog 105 i105:=⟨by kernel_rfl,by kernel_rfl,rfl,by kernel_rfl,(fun _=>rfl),by kernel_rfl,(fun ks h=>(by cases h))⟩
def WU:TI:=⟨1,24,[.slice none 0 0],.slt 278,none⟩
theorem Zh:bD prog 106 WU:=⟨by kernel_rfl,by kernel_rfl,rfl,by kernel_rfl,(fun _=>rfl),by kernel_rfl,(fun ks h=>(by cases h))⟩
def WV:TI:=⟨5,88,[.int .u64 0,.int .u64 0,.slice none 0 0,.slice none 0 0,.slice none 0 0],.str [(0,22),(1,22),(2,105),(3,104),(4,106)],none⟩
theorem Zi:bD prog 108 WV:=⟨by kernel_rfl,by kernel_rfl,rfl,by kernel_rfl,(fun h=>(by cases h)),by kernel_rfl,(fun ks h=>(by cases h))⟩
def WX:TI:=⟨1,8,[.nilFunc],.wW,none⟩
theorem Zj:bD prog 115 WX:=⟨by kernel_rfl,by kernel_rfl,rfl,by kernel_rfl,(fun _=>rfl),by kernel_rfl,(fun ks h=>(by cases h))⟩
def WY:TI:=⟨1,8,[.pointer none],.zV 31,none⟩
theorem Zk:bD prog 121 WY:=⟨by kernel_rfl,by kernel_rfl,rfl,by kernel_rfl,(fun _=>rfl),by kernel_rfl,(fun ks h=>(by cases h))⟩
def i130:TI:=⟨15,200,[.int .u64 0,.int .i64 0,.int .i64 0,.slice none 0 0,.int .i64 0,.int .u64 0,.int .u64 0,.int .u64 0,.int .u64 0,.slice none 0 0,.slice none 0 0,.int .u64 0,.slice none 0 0,.int .i64 0,.slice none 0 0],.str [(0,50),(14,38)],none⟩
theorem Zl:bD prog 130 i130:=⟨by kernel_rfl,by kernel_rfl,rfl,by kernel_rfl,(fun h=>(by cases h)),by kernel_rfl,(fun ks h=>(by cases h))⟩
def i131:TI:=⟨1,8,[.pointer none],.zV 130,none⟩
theorem Zm:bD prog 131 i131:=⟨by kernel_rfl,by kernel_rfl,rfl,by kernel_rfl,(fun _=>rfl),by kernel_rfl,(fun ks h=>(by cases h))⟩
def WZ:TI:=⟨20,208,[.bool false,.int .i64 0,.int .u64 0,.int .i64 0,.int .u64 0,.int .u64 0,.int .u64 0,.int .u64 0,.int .i64 0,.slice none 0 0,.slice none 0 0,.int .i64 0,.int .u64 0,.int .i64 0,.int .i64 0,.int .u64 0,.int .u64 0,.int .u64 0,.int .u64 0,.slice none 0 0],.str [(0,4),(1,93),(11,33)],none⟩
theorem Zn:bD prog 136 WZ:=⟨by kernel_rfl,by kernel_rfl,rfl,by kernel_rfl,(fun h=>(by cases h)),by kernel_rfl,(fun ks h=>(by cases h))⟩
def W9:TI:=⟨4,40,[.int .i64 0,.int .u64 0,.int .u64 0,.string ByteArray.empty],.str [(0,27),(2,22),(3,9)],some [.int .i64,.int .u64,.int .u64,.str]⟩
theorem Zo:bD prog 140 W9:=⟨by kernel_rfl,by kernel_rfl,rfl,by kernel_rfl,(fun h=>(by cases h)),by kernel_rfl,(fun ks h=>(by cases h;exact⟨eO (by kernel_rfl) (by kernel_rfl),(by kernel_rfl)⟩))⟩
def Xa:TI:=⟨1,8,[.nilFunc],.wW,none⟩
theorem Zp:bD prog 142 Xa:=⟨by kernel_rfl,by kernel_rfl,rfl,by kernel_rfl,(fun _=>rfl),by kernel_rfl,(fun ks h=>(by cases h))⟩
def i143:TI:=⟨1,8,[.pointer none],.zV 145,none⟩
theorem Zq:bD prog 143 i143:=⟨by kernel_rfl,by kernel_rfl,rfl,by kernel_rfl,(fun _=>rfl),by kernel_rfl,(fun ks h=>(by cases h))⟩
def i145:TI:=⟨5,72,[.int .u64 0,.slice none 0 0,.slice none 0 0,.int .u64 0,.int .u64 0],.str [(0,22),(1,29),(2,28),(3,22),(4,22)],none⟩
theorem Zr:bD prog 145 i145:=⟨by kernel_rfl,by kernel_rfl,rfl,by kernel_rfl,(fun h=>(by cases h)),by kernel_rfl,(fun ks h=>(by cases h))⟩
def Xb:TI:=⟨1,8,[.nilFunc],.wW,none⟩
theorem Zt:bD prog 153 Xb:=⟨by kernel_rfl,by kernel_rfl,rfl,by kernel_rfl,(fun _=>rfl),by kernel_rfl,(fun ks h=>(by cases h))⟩
def Xc:TI:=⟨1,8,[.nilFunc],.wW,none⟩
theorem Zu:bD prog 166 Xc:=⟨by kernel_rfl,by kernel_rfl,rfl,by kernel_rfl,(fun _=>rfl),by kernel_rfl,(fun ks h=>(by cases h))⟩
def Xd:TI:=⟨1,8,[.nilFunc],.wW,none⟩
theorem Zv:bD prog 177 Xd:=⟨by kernel_rfl,by kernel_rfl,rfl,by kernel_rfl,(fun _=>rfl),by kernel_rfl,(fun ks h=>(by cases h))⟩
def i182:TI:=⟨1,8,[.nilFunc],.wW,none⟩
theorem Zw:bD prog 182 i182:=⟨by kernel_rfl,by kernel_rfl,rfl,by kernel_rfl,(fun _=>rfl),by kernel_rfl,(fun ks h=>(by cases h))⟩
def Xe:TI:=⟨1,24,[.slice none 0 0],.slt 145,none⟩
theorem Zx:bD prog 187 Xe:=⟨by kernel_rfl,by kernel_rfl,rfl,by kernel_rfl,(fun _=>rfl),by kernel_rfl,(fun ks h=>(by cases h))⟩
def Xf:TI:=⟨1,8,[.pointer none],.zV 195,none⟩
theorem Zy:bD prog 191 Xf:=⟨by kernel_rfl,by kernel_rfl,rfl,by kernel_rfl,(fun _=>rfl),by kernel_rfl,(fun ks h=>(by cases h))⟩
def Xg:TI:=⟨19,280,[.int .u64 0,.int .i64 0,.int .i64 0,.slice none 0 0,.int .i64 0,.int .u64 0,.int .u64 0,.int .i64 0,.slice none 0 0,.int .u64 0,.int .u64 0,.slice none 0 0,.slice none 0 0,.slice none 0 0,.slice none 0 0,.slice none 0 0,.int .u64 0,.int .u64 0,.slice none 0 0],.str [(0,84),(18,38)],none⟩
theorem Zz:bD prog 195 Xg:=⟨by kernel_rfl,by kernel_rfl,rfl,by kernel_rfl,(fun h=>(by cases h)),by kernel_rfl,(fun ks h=>(by cases h))⟩
def Xh:TI:=⟨4,40,[.int .i64 0,.int .u64 0,.int .u64 0,.string ByteArray.empty],.str [(0,27),(2,22),(3,9)],some [.int .i64,.int .u64,.int .u64,.str]⟩
theorem ZA:bD prog 202 Xh:=⟨by kernel_rfl,by kernel_rfl,rfl,by kernel_rfl,(fun h=>(by cases h)),by kernel_rfl,(fun ks h=>(by cases h;exact⟨eO (by kernel_rfl) (by kernel_rfl),(by kernel_rfl)⟩))⟩
def Xi:TI:=⟨1,8,[.nilFunc],.wW,none⟩
theorem ZB:bD prog 207 Xi:=⟨by kernel_rfl,by kernel_rfl,rfl,by kernel_rfl,(fun _=>rfl),by kernel_rfl,(fun ks h=>(by cases h))⟩
def i210:TI:=⟨1,8,[.nilFunc],.wW,none⟩
theorem ZC:bD prog 210 i210:=⟨by kernel_rfl,by kernel_rfl,rfl,by kernel_rfl,(fun _=>rfl),by kernel_rfl,(fun ks h=>(by cases h))⟩
def Xj:TI:=⟨4,32,[.int .i64 0,.int .u64 0,.int .u64 0,.int .u64 0],.str [(0,27),(2,22),(3,22)],some [.int .i64,.int .u64,.int .u64,.int .u64]⟩
theorem ZE:bD prog 221 Xj:=⟨by kernel_rfl,by kernel_rfl,rfl,by kernel_rfl,(fun h=>(by cases h)),by kernel_rfl,(fun ks h=>(by cases h;exact⟨eO (by kernel_rfl) (by kernel_rfl),(by kernel_rfl)⟩))⟩
def i226:TI:=⟨1,8,[.nilFunc],.wW,none⟩
theorem ZF:bD prog 226 i226:=⟨by kernel_rfl,by kernel_rfl,rfl,by kernel_rfl,(fun _=>rfl),by kernel_rfl,(fun ks h=>(by cases h))⟩
def i228:TI:=⟨1,8,[.nilFunc],.wW,none⟩
theorem ZG:bD prog 228 i228:=⟨by kernel_rfl,by kernel_rfl,rfl,by kernel_rfl,(fun _=>rfl),by kernel_rfl,(fun ks h=>(by cases h))⟩
def i234:TI:=⟨1,8,[.int .u64 0],.q8 .u64,none⟩
theorem ZH:bD prog 234 i234:=⟨by kernel_rfl,by kernel_rfl,rfl,by kernel_rfl,(fun _=>rfl),by kernel_rfl,(fun ks h=>(by cases h))⟩
def Xk:TI:=⟨1,8,[.int .i64 0],.q8 .i64,none⟩
theorem ZI:bD prog 237 Xk:=⟨by kernel_rfl,by kernel_rfl,rfl,by kernel_rfl,(fun _=>rfl),by kernel_rfl,(fun ks h=>(by cases h))⟩
def Xl:TI:=⟨1,4,[.int .u32 0],.q8 .u32,none⟩
theorem ZJ:bD prog 245 Xl:=⟨by kernel_rfl,by kernel_rfl,rfl,by kernel_rfl,(fun _=>rfl),by kernel_rfl,(fun ks h=>(by cases h))⟩
def Xm:TI:=⟨1,8,[.int .u64 0],.q8 .u64,none⟩
theorem ZK:bD prog 247 Xm:=⟨by kernel_rfl,by kernel_rfl,rfl,by kernel_rfl,(fun _=>rfl),by kernel_rfl,(fun ks h=>(by cases h))⟩
def Xn:TI:=⟨1,8,[.pointer none],.zV 3,none⟩
theorem ZL:bD prog 251 Xn:=⟨by kernel_rfl,by kernel_rfl,rfl,by kernel_rfl,(fun _=>rfl),by kernel_rfl,(fun ks h=>(by cases h))⟩
def Xo:TI:=⟨1,24,[.slice none 0 0],.slt 281,none⟩
theorem ZM:bD prog 271 Xo:=⟨by kernel_rfl,by kernel_rfl,rfl,by kernel_rfl,(fun _=>rfl),by kernel_rfl,(fun ks h=>(by cases h))⟩
def Xp:TI:=⟨1,24,[.slice none 0 0],.slt 283,none⟩
theorem ZN:bD prog 272 Xp:=⟨by kernel_rfl,by kernel_rfl,rfl,by kernel_rfl,(fun _=>rfl),by kernel_rfl,(fun ks h=>(by cases h))⟩
def Xq:TI:=⟨9,120,[.int .u64 0,.int .i64 0,.int .u64 0,.int .u64 0,.int .u64 0,.int .u64 0,.slice none 0 0,.slice none 0 0,.slice none 0 0],.str [(0,22),(1,3),(2,22),(3,22),(4,22),(5,22),(6,91),(7,271),(8,272)],none⟩
theorem ZO:bD prog 274 Xq:=⟨by kernel_rfl,by kernel_rfl,rfl,by kernel_rfl,(fun h=>(by cases h)),by kernel_rfl,(fun ks h=>(by cases h))⟩
def Xr:TI:=⟨5,40,[.int .i64 0,.int .u64 0,.int .u64 0,.int .u64 0,.int .i64 0],.str [(0,51),(1,22),(2,22),(3,22),(4,3)],some [.int .i64,.int .u64,.int .u64,.int .u64,.int .i64]⟩
theorem ZP:bD prog 276 Xr:=⟨by kernel_rfl,by kernel_rfl,rfl,by kernel_rfl,(fun h=>(by cases h)),by kernel_rfl,(fun ks h=>(by cases h;exact⟨eO (by kernel_rfl) (by kernel_rfl),(by kernel_rfl)⟩))⟩
def Xt:TI:=⟨8,64,[.int .i64 0,.int .u64 0,.int .u64 0,.int .i64 0,.int .u64 0,.int .u64 0,.int .u64 0,.int .i64 0],.str [(0,3),(1,22),(2,22),(3,276)],some [.int .i64,.int .u64,.int .u64,.int .i64,.int .u64,.int .u64,.int .u64,.int .i64]⟩
theorem ZQ:bD prog 278 Xt:=⟨by kernel_rfl,by kernel_rfl,rfl,by kernel_rfl,(fun h=>(by cases h)),by kernel_rfl,(fun ks h=>(by cases h;exact⟨eO (by kernel_rfl) (by kernel_rfl),(by kernel_rfl)⟩))⟩
def Xu:TI:=⟨3,24,[.int .i64 0,.int .u64 0,.int .u64 0],.str [(0,3),(1,22),(2,22)],some [.int .i64,.int .u64,.int .u64]⟩
theorem ZR:bD prog 281 Xu:=⟨by kernel_rfl,by kernel_rfl,rfl,by kernel_rfl,(fun h=>(by cases h)),by kernel_rfl,(fun ks h=>(by cases h;exact⟨eO (by kernel_rfl) (by kernel_rfl),(by kernel_rfl)⟩))⟩
def Xv:TI:=⟨2,16,[.int .i64 0,.int .u64 0],.str [(0,3),(1,22)],some [.int .i64,.int .u64]⟩
theorem ZT:bD prog 283 Xv:=⟨by kernel_rfl,by kernel_rfl,rfl,by kernel_rfl,(fun h=>(by cases h)),by kernel_rfl,(fun ks h=>(by cases h;exact⟨eO (by kernel_rfl) (by kernel_rfl),(by kernel_rfl)⟩))⟩
def tab:Tab:=[(3,i3),(4,i4),(5,i5),(9,i9),(22,i22),(23,i23),(25,i25),(27,i27),(28,i28),(29,i29),(31,i31),(33,i33),(38,i38),(44,i44),(46,i46),(48,i48),(50,i50),(51,i51),(55,i55),(57,i57),(58,i58),(59,i59),(61,i61),(63,i63),(75,i75),(77,i77),(81,i81),(84,i84),(85,i85),(86,i86),(87,i87),(89,i89),(91,i91),(93,i93),(95,i95),(104,WT),(105,i105),(106,WU),(108,WV),(115,WX),(121,WY),(130,i130),(131,i131),(136,WZ),(140,W9),(142,Xa),(143,i143),(145,i145),(153,Xb),(166,Xc),(177,Xd),(182,i182),(187,Xe),(191,Xf),(195,Xg),(202,Xh),(207,Xi),(210,i210),(221,Xj),(226,i226),(228,i228),(234,i234),(237,Xk),(245,Xl),(247,Xm),(251,Xn),(271,Xo),(272,Xp),(274,Xq),(276,Xr),(278,Xt),(281,Xu),(283,Xv)]
theorem zy:bC prog tab:=Ae (by
 intro x hx;simp only[tab,List.mem_cons,List.mem_nil_iff,or_false] at hx;rcases hx with rfl|rfl|rfl|rfl|rfl|rfl|rfl|rfl|rfl|rfl|rfl|rfl|rfl|rfl|rfl|rfl|rfl|rfl|rfl|rfl|rfl|rfl|rfl|rfl|rfl|rfl|rfl|rfl|rfl|rfl|rfl|rfl|rfl|rfl|rfl|rfl|rfl|rfl|rfl|rfl|rfl|rfl|rfl|rfl|rfl|rfl|rfl|rfl|rfl|rfl|rfl|rfl|rfl|rfl|rfl|rfl|rfl|rfl|rfl|rfl|rfl|rfl|rfl|rfl|rfl|rfl|rfl|rfl|rfl|rfl|rfl|rfl|rfl
 ·exact o3
 ·exact o4
 ·exact o5
 ·exact o9
 ·exact o22
 ·exact o23
 ·exact o25
 ·exact o27
 ·exact o28
 ·exact o29
 ·exact o31
 ·exact o33
 ·exact o38
 ·exact o44
 ·exact o46
 ·exact o48
 ·exact o50
 ·exact o51
 ·exact o55
 ·exact o57
 ·exact o58
 ·exact o59
 ·exact o61
 ·exact o63
 ·exact o75
 ·exact o77
 ·exact o81
 ·exact o84
 ·exact o85
 ·exact o86
 ·exact o87
 ·exact o89
 ·exact o91
 ·exact o93
 ·exact o95
 ·exact Zf
 ·exact Zg
 ·exact Zh
 ·exact Zi
 ·exact Zj
 ·exact Zk
 ·exact Zl
 ·exact Zm
 ·exact Zn
 ·exact Zo
 ·exact Zp
 ·exact Zq
 ·exact Zr
 ·exact Zt
 ·exact Zu
 ·exact Zv
 ·exact Zw
 ·exact Zx
 ·exact Zy
 ·exact Zz
 ·exact ZA
 ·exact ZB
 ·exact ZC
 ·exact ZE
 ·exact ZF
 ·exact ZG
 ·exact ZH
 ·exact ZI
 ·exact ZJ
 ·exact ZK
 ·exact ZL
 ·exact ZM
 ·exact ZN
 ·exact ZO
 ·exact ZP
 ·exact ZQ
 ·exact ZR
 exact ZT)
theorem mixed:prog.follows .mixedOrders=true:=by kernel_rfl
theorem dA {f:FuncId}{fn:Func}(hf:bE prog f fn){args:List PV}{Q:PV→Prop}(h:SG args fun s=>VC prog tab (codeOf fn) s (fnK tab fn.results.toList Q))(hl:Nat.ble args.length fn.ntmps=true:=by rfl):PC prog f args Q:=MR zy (xu mixed zy) hf hl h
theorem jY {f:FuncId}{fn:Func}(hf:bE prog f fn){args:List AV}{hp:List (Nat×av)}{Q:AV→List (Nat×av)→Prop}(h:SI args hp fun s=>VC prog tab (codeOf fn) s (fnG tab fn.results.toList Q))(hl:Nat.ble args.length fn.ntmps=true:=by rfl):GC prog f args hp Q:=Er zy (xu mixed zy) hf hl h
theorem qQ:bE prog 107 f107:=eZ func107
theorem Dn (l:List Pl)(a b:Int):dH prog 107 [iX l,.agg [ii a,uu b]] (ii (BH (fun y=>y==⟨a,b⟩) l)):=by
 refine PC.le (jN qQ fun hb=>?_);have hb:l.length≤9223372036854775807:=by simpa[Br,wV,iX] using hb
 refine dA qQ ?_;repeat' ((conv=>whnf);first|with_reducible apply aO|((with_reducible refine (⟨fun h=>?_,fun h=>?_⟩:(_=true→_)∧(_=false→_)))<;>first|exact absurd h (by decide)|(exfalso;simp only[*,reduceCtorEq] at h;done)|skip)|refine aP ?_|fail)
 refine⟨{k:Nat // k≤l.length∧∀j (hj:j<l.length),j<k→(l[j]==⟨a,b⟩)=false},fun⟨k,_⟩=>⟨[(0,.pv (iX l)),(3,.ptr 1003 0),(7,.pv (ii l.length)),(8,.pv (ii k))],1000000000,[(1003,.var [.pv (ii a),.pv (uu b)])]⟩,fun⟨k,_⟩=>l.length-k,⟨⟨0,by simp⟩,aA ?_⟩,?_⟩
 ·repeat' first|apply And.intro|exact aL|fail
  all_goals try (conv=>whnf)
  simp
 rintro⟨k,hk,hn⟩
 repeat' ((conv=>whnf);first|with_reducible apply aO|((with_reducible refine (⟨fun h=>?_,fun h=>?_⟩:(_=true→_)∧(_=false→_)))<;>first|exact absurd h (by decide)|(exfalso;simp only[*,reduceCtorEq] at h;done)|skip)|refine aP ?_|fail)
 ·rename_i h;have hlt:k<l.length:=by simpa using h
  refine⟨_,eD _ _ _ hlt,?_⟩;repeat' ((conv=>whnf);first|with_reducible apply aO|((with_reducible refine (⟨fun h=>?_,fun h=>?_⟩:(_=true→_)∧(_=false→_)))<;>first|exact absurd h (by decide)|(exfalso;simp only[*,reduceCtorEq] at h;done)|skip)|refine aP ?_|fail)
  ·rename_i h2 h;repeat' first|apply And.intro|exact aL|fail
   all_goals try (conv=>whnf)
   exact (Db _ hlt hn (by rw[←Pl.VN];exact h)).symm
  rename_i h2 h;repeat' ((conv=>whnf);first|with_reducible apply aO|((with_reducible refine (⟨fun h=>?_,fun h=>?_⟩:(_=true→_)∧(_=false→_)))<;>first|exact absurd h (by decide)|(exfalso;simp only[*,reduceCtorEq] at h;done)|skip)|refine aP ?_|fail)
  refine⟨⟨k+1,hlt,eX hn fun _=>(by rw[←Pl.VN];exact h)⟩,dec_lt hlt,aA ?_⟩;repeat' first|apply And.intro|exact aL|fail
  all_goals try (conv=>whnf)
  exact bI (by omega) (by omega)
 rename_i h;repeat' first|apply And.intro|exact aL|fail
 all_goals try (conv=>whnf)
 have:k=l.length:=by simp at h;omega
 subst this;exact (mY _ (u7 hn)).symm
theorem vk:bE prog 52 f52:=eZ func52
theorem dW (l:List Pl)(a b:Int):dH prog 52 [iX l,.agg [ii a,uu b]] (bl (l.any (fun y=>y==⟨a,b⟩))):=by
 refine PC.le ?_;refine dA vk ?_;repeat' ((conv=>whnf);first|with_reducible apply aO|((with_reducible refine (⟨fun h=>?_,fun h=>?_⟩:(_=true→_)∧(_=false→_)))<;>first|exact absurd h (by decide)|(exfalso;simp only[*,reduceCtorEq] at h;done)|skip)|(apply aX;refine⟨_,Dn _ _ _,?_⟩)|refine aP ?_|fail)
 repeat' first|apply And.intro|exact aL|fail
 all_goals try (conv=>whnf)
 exact Ir _ _
theorem lZ:bE prog 98 f98:=eZ func98
theorem dK (l:List Pl)(f:FuncId)(first aT:List PV)(p:Pl→Bool)(hp:∀x∈l,dH prog f (first++([.agg x.c]++aT)) (bl (p x))) :
  dH prog 98 [iX l,.fn (.func f) first aT] (ii (BH p l)):=by
 refine PC.le (jN lZ fun hb=>?_);have hb:l.length≤9223372036854775807:=by simpa[Br,wV,iX] using hb
 refine dA lZ ?_;repeat' ((conv=>whnf);first|with_reducible apply aO|((with_reducible refine (⟨fun h=>?_,fun h=>?_⟩:(_=true→_)∧(_=false→_)))<;>first|exact absurd h (by decide)|(exfalso;simp only[*,reduceCtorEq] at h;done)|skip)|refine aP ?_|fail)
 refine⟨{k:Nat // k≤l.length∧∀j (hj:j<l.length),j<k→p l[j]=false},fun⟨k,_⟩=>⟨[(0,.pv (iX l)),(1,.pv (.fn (.func f) first aT)),(7,.pv (ii l.length)),(8,.pv (ii k))],1000000000,[]⟩,fun⟨k,_⟩=>l.length-k,⟨⟨0,by simp⟩,aA ?_⟩,?_⟩
 ·repeat' first|apply And.intro|exact aL|fail
  all_goals try (conv=>whnf)
  simp
 rintro⟨k,hk,hn⟩
 repeat' ((conv=>whnf);first|with_reducible apply aO|((with_reducible refine (⟨fun h=>?_,fun h=>?_⟩:(_=true→_)∧(_=false→_)))<;>first|exact absurd h (by decide)|(exfalso;simp only[*,reduceCtorEq] at h;done)|skip)|refine aP ?_|fail)
 ·rename_i h;have hlt:k<l.length:=by simpa using h
  refine⟨_,eD _ _ _ hlt,?_⟩;repeat' ((conv=>whnf);first|with_reducible apply aO|((with_reducible refine (⟨fun h=>?_,fun h=>?_⟩:(_=true→_)∧(_=false→_)))<;>first|exact absurd h (by decide)|(exfalso;simp only[*,reduceCtorEq] at h;done)|skip)|(apply aX;refine⟨_,hp _ (List.getElem_mem hlt),?_⟩)|refine aP ?_|fail)
  ·rename_i h2 h;repeat' first|apply And.intro|exact aL|fail
   all_goals try (conv=>whnf)
   exact (Db _ hlt hn h).symm
  rename_i h2 h;repeat' ((conv=>whnf);first|with_reducible apply aO|((with_reducible refine (⟨fun h=>?_,fun h=>?_⟩:(_=true→_)∧(_=false→_)))<;>first|exact absurd h (by decide)|(exfalso;simp only[*,reduceCtorEq] at h;done)|skip)|refine aP ?_|fail)
  refine⟨⟨k+1,hlt,eX hn fun _=>h⟩,dec_lt hlt,aA ?_⟩;repeat' first|apply And.intro|exact aL|fail
  all_goals try (conv=>whnf)
  exact bI (by omega) (by omega)
 rename_i h;repeat' first|apply And.intro|exact aL|fail
 all_goals try (conv=>whnf)
 have:k=l.length:=by simp at h;omega
 subst this;exact (mY _ (u7 hn)).symm
theorem qa:bE prog 102 f102:=eZ func102
theorem dF (l:List Pl)(f:FuncId)(first aT:List PV)(p:Pl→Bool)(hp:∀x∈l,dH prog f (first++([.agg x.c]++aT)) (bl (p x))) :
  dH prog 102 [iX l,.fn (.func f) first aT] (bl (l.any p)):=by
 refine PC.le ?_;refine dA qa ?_;repeat' ((conv=>whnf);first|with_reducible apply aO|((with_reducible refine (⟨fun h=>?_,fun h=>?_⟩:(_=true→_)∧(_=false→_)))<;>first|exact absurd h (by decide)|(exfalso;simp only[*,reduceCtorEq] at h;done)|skip)|(apply aX;refine⟨_,dK _ _ _ _ _ hp,?_⟩)|refine aP ?_|fail)
 repeat' first|apply And.intro|exact aL|fail
 all_goals try (conv=>whnf)
 exact Ir _ _
theorem nu:bE prog 177 f177:=eZ func177
theorem wZ (l:List Fr)(f:FuncId)(first aT:List PV)(p:Fr→Bool)(hp:∀x∈l,dH prog f (first++([.agg x.c]++aT)) (bl (p x))) :
  dH prog 177 [gH l,.fn (.func f) first aT] (ii (BH p l)):=by
 refine PC.le (jN nu fun hb=>?_);have hb:l.length≤9223372036854775807:=by simpa[Br,wV,gH] using hb
 refine dA nu ?_;repeat' ((conv=>whnf);first|with_reducible apply aO|((with_reducible refine (⟨fun h=>?_,fun h=>?_⟩:(_=true→_)∧(_=false→_)))<;>first|exact absurd h (by decide)|(exfalso;simp only[*,reduceCtorEq] at h;done)|skip)|refine aP ?_|fail)
 refine⟨{k:Nat // k≤l.length∧∀j (hj:j<l.length),j<k→p l[j]=false},fun⟨k,_⟩=>⟨[(0,.pv (gH l)),(1,.pv (.fn (.func f) first aT)),(7,.pv (ii l.length)),(8,.pv (ii k))],1000000000,[]⟩,fun⟨k,_⟩=>l.length-k,⟨⟨0,by simp⟩,aA ?_⟩,?_⟩
 ·repeat' first|apply And.intro|exact aL|fail
  all_goals try (conv=>whnf)
  simp
 rintro⟨k,hk,hn⟩
 repeat' ((conv=>whnf);first|with_reducible apply aO|((with_reducible refine (⟨fun h=>?_,fun h=>?_⟩:(_=true→_)∧(_=false→_)))<;>first|exact absurd h (by decide)|(exfalso;simp only[*,reduceCtorEq] at h;done)|skip)|refine aP ?_|fail)
 ·rename_i h;have hlt:k<l.length:=by simpa using h
  refine⟨_,eD _ _ _ hlt,?_⟩;repeat' ((conv=>whnf);first|with_reducible apply aO|((with_reducible refine (⟨fun h=>?_,fun h=>?_⟩:(_=true→_)∧(_=false→_)))<;>first|exact absurd h (by decide)|(exfalso;simp only[*,reduceCtorEq] at h;done)|skip)|(apply aX;refine⟨_,hp _ (List.getElem_mem hlt),?_⟩)|refine aP ?_|fail)
  ·rename_i h2 h;repeat' first|apply And.intro|exact aL|fail
   all_goals try (conv=>whnf)
   exact (Db _ hlt hn h).symm
  rename_i h2 h;repeat' ((conv=>whnf);first|with_reducible apply aO|((with_reducible refine (⟨fun h=>?_,fun h=>?_⟩:(_=true→_)∧(_=false→_)))<;>first|exact absurd h (by decide)|(exfalso;simp only[*,reduceCtorEq] at h;done)|skip)|refine aP ?_|fail)
  refine⟨⟨k+1,hlt,eX hn fun _=>h⟩,dec_lt hlt,aA ?_⟩;repeat' first|apply And.intro|exact aL|fail
  all_goals try (conv=>whnf)
  exact bI (by omega) (by omega)
 rename_i h;repeat' first|apply And.intro|exact aL|fail
 all_goals try (conv=>whnf)
 have:k=l.length:=by simp at h;omega
 subst this;exact (mY _ (u7 hn)).symm
theorem qH:bE prog 153 f153:=eZ func153
theorem rV (l:List Fr)(f:FuncId)(first aT:List PV)(p:Fr→Bool)(hp:∀x∈l,dH prog f (first++([.agg x.c]++aT)) (bl (p x))) :
  dH prog 153 [gH l,.fn (.func f) first aT] (bl (l.any p)):=by
 refine PC.le ?_;refine dA qH ?_;repeat' ((conv=>whnf);first|with_reducible apply aO|((with_reducible refine (⟨fun h=>?_,fun h=>?_⟩:(_=true→_)∧(_=false→_)))<;>first|exact absurd h (by decide)|(exfalso;simp only[*,reduceCtorEq] at h;done)|skip)|(apply aX;refine⟨_,wZ _ _ _ _ _ hp,?_⟩)|refine aP ?_|fail)
 repeat' first|apply And.intro|exact aL|fail
 all_goals try (conv=>whnf)
 exact Ir _ _
theorem qR:bE prog 105 f105:=eZ func105
theorem fZ (l:List Pl)(h:l.length*16≤140737488355328):gY prog 105 [.pv (iX l)] [] (.aG 1001 0) [(1001,.arr 27 0 2 (l.map Pl.c))]:=by
 refine Nz [] ?_ fun h0=>?_
 all_goals
  refine jY qR ?_;repeat' ((conv=>whnf);first|with_reducible apply aO|((with_reducible refine (⟨fun h=>?_,fun h=>?_⟩:(_=true→_)∧(_=false→_)))<;>first|exact absurd h (by decide)|(exfalso;simp only[*,reduceCtorEq] at h;done)|skip)|refine aP ?_|fail)
  refine⟨_,_,⟨rfl,rfl⟩,?_⟩;repeat' first|apply And.intro|exact aL|fail
  all_goals try (conv=>whnf)
 exact h0
theorem Dp (l:List Pl)(h:l.length*16≤140737488355328):dH prog 105 [iX l] (iX l):=by
 refine PC.le (VA [] ?_ fun h0=>?_);all_goals
  refine dA qR ?_;repeat' ((conv=>whnf);first|with_reducible apply aO|((with_reducible refine (⟨fun h=>?_,fun h=>?_⟩:(_=true→_)∧(_=false→_)))<;>first|exact absurd h (by decide)|(exfalso;simp only[*,reduceCtorEq] at h;done)|skip)|refine aP ?_|fail)
  repeat' first|apply And.intro|exact aL|fail
  all_goals try (conv=>whnf)
 exact h0
theorem Dq:bE prog 54 f54:=eZ func54
theorem qb (l:List UInt8)(h:l.length*1≤140737488355328):gY prog 54 [.pv (xC l)] [] (.aG 1001 0) [(1001,.arr 5 0 1 (l.map aB))]:=by
 refine Nz [] ?_ fun h0=>?_
 all_goals
  refine jY Dq ?_;repeat' ((conv=>whnf);first|with_reducible apply aO|((with_reducible refine (⟨fun h=>?_,fun h=>?_⟩:(_=true→_)∧(_=false→_)))<;>first|exact absurd h (by decide)|(exfalso;simp only[*,reduceCtorEq] at h;done)|skip)|refine aP ?_|fail)
  refine⟨_,_,⟨rfl,rfl⟩,?_⟩;repeat' first|apply And.intro|exact aL|fail
  all_goals try (conv=>whnf)
 exact h0
theorem LJ:bE prog 176 f176:=eZ func176
theorem OP (n:Int)(x:Fr):dH prog 176 ([]++([.agg x.c]++[.bT [uu n] 0])) (bl (decide (x.first≤n))):=by
 refine PC.le ?_;refine dA LJ ?_;repeat' ((conv=>whnf);first|with_reducible apply aO|((with_reducible apply fk)<;>intro hc<;>try exact bQ)|refine aP ?_|fail)
 all_goals exact aL
theorem J6:bE prog 175 f175:=eZ func175
theorem Uh (l:List Fr)(f:FuncId)(first aT:List PV)(p:Fr→Bool)(hp:∀x∈l,dH prog f (first++([.agg x.c]++aT)) (bl (p x))) :
  dH prog 175 [gH l,.fn (.func f) first aT] (.fF [.agg ((kX p l).getD Tx).c,bl (kX p l).isSome]):=by
 refine PC.le (jN J6 fun hb=>?_);have hb:l.length≤9223372036854775807:=by simpa[Br,wV,gH] using hb
 refine dA J6 ?_;repeat' ((conv=>whnf);first|with_reducible apply aO|((with_reducible apply fk)<;>intro hc<;>try exact bQ)|refine aP ?_|fail)
 refine⟨{k:Nat // k≤l.length},fun⟨k,_⟩=>⟨[(1,.pv (.fn (.func f) first aT)),(4,.ptr 1004 0),(5,.pv (bl (kX p (l.take k)).isSome)),(8,.pv (gH l)),(9,.pv (ii l.length)),(10,.pv (ii k))],1000000000,[(1004,.var [.pv (uu ((kX p (l.take k)).getD Tx).first),.pv (iX ((kX p (l.take k)).getD Tx).ak)])]⟩,fun⟨k,_⟩=>l.length-k,⟨⟨0,by simp⟩,aA ?_⟩,?_⟩
 ·repeat' first|apply And.intro|exact aL|fail
  all_goals try (conv=>whnf)
  all_goals simp
 rintro⟨k,hk⟩
 repeat' ((conv=>whnf);first|with_reducible apply aO|((with_reducible apply fk)<;>intro hc<;>try exact bQ)|refine aP ?_|fail)
 ·have hlt:k<l.length:=by simpa using hc
  refine⟨_,eD _ _ _ hlt,?_⟩;have hs:kX p (l.take (k+1))=if p l[k] then some l[k] else kX p (l.take k):=Iu _ _ _ _ hlt
  repeat' ((conv=>whnf);first|with_reducible apply aO|((with_reducible apply fk)<;>intro hc<;>try exact bQ)|(apply aX;refine⟨_,hp _ (List.getElem_mem hlt),?_⟩)|refine aP ?_|fail)
  ·refine⟨⟨k+1,hlt⟩,dec_lt hlt,aA ?_⟩;repeat' first|apply And.intro|exact aL|fail
   all_goals try (conv=>whnf)
   all_goals first|exact bI (by omega) (by omega)|(rw[hs,if_pos hc];first|rfl|exact bH _)
  refine⟨⟨k+1,hlt⟩,dec_lt hlt,aA ?_⟩;repeat' first|apply And.intro|exact aL|fail
  all_goals try (conv=>whnf)
  all_goals first|exact bI (by omega) (by omega)|(rw[hs,if_neg (by simp[hc])];first|done|exact bH _)
 have:k=l.length:=by simp at hc;omega
 subst this;rw[List.take_length];all_goals exact aL
theorem OQ:bE prog 150 f150:=eZ func150
theorem J7 (l:List Fr)(n:Int)(h:fB l):dH prog 150 [gH l,uu n] (.fF [.agg ((kY l n).getD Tx).c,bl (kY l n).isSome]):=by
 refine PC.le ?_;refine dA OQ ?_;repeat' ((conv=>whnf);first|with_reducible apply aO|((with_reducible apply fk)<;>intro hc<;>try exact bQ)|(apply aX;refine⟨_,Uh _ _ _ _ _ fun x _=>OP n x,?_⟩)|(apply aX;refine⟨_,Dp _ (by have:=Iw h n;exact Nat.le_trans (Nat.mul_le_mul_right 16 this) (by decide)),?_⟩)|refine aP ?_|fail)
 all_goals exact aL
theorem OT:bE prog 151 f151:=eZ func151
theorem QI (l:List Pl)(k w:Nat)(h0:0<l.length)(hl:l.length≤8796093022208)(hk:k<l.length)(hw:w≤l.length):dH prog 151 [iX l,ii k,ii w] (iX (fD l k w)):=by
 refine PC.le ?_;refine dA OT ?_;repeat' ((conv=>whnf);first|with_reducible apply aO|((with_reducible apply fk)<;>intro hc<;>try exact bQ)|refine aP ?_|fail)
 refine⟨{i:Nat // i≤w},fun⟨i,_⟩=>⟨[(0,.pv (iX l)),(1,.pv (ii k)),(7,.aG 1007 0),(9,.pv (ii w)),(10,.pv (ii i))],1000000000,[(1007,.arr 27 0 2 ((fD l k i).map Pl.c))]⟩,fun⟨i,_⟩=>w-i,⟨⟨0,by simp⟩,aA ?_⟩,?_⟩
 ·all_goals exact aL
 rintro⟨i,hi⟩
 repeat' ((conv=>whnf);first|with_reducible apply aO|((with_reducible apply fk)<;>intro hc<;>try exact bQ)|refine aP ?_|fail)
 ·have hlt:i<w:=by simpa using hc
  have e1:(IntKind.i64.wrap ((k:Int)+(i:Int))).tmod ((l.map Pl.c).length:Int)=(((k+i)%l.length:Nat):Int):=by
   rw[bI (by omega) (by omega),List.length_map];rfl
  have hf:fD l k (i+1)=fD l k i++[l[(k+i)%l.length]!]:=by
   simp[fD,List.range_succ]
  have hlen:(fD l k i).length=i:=by simp[fD]
  have hm:(k+i)%l.length<l.length:=Nat.mod_lt _ h0;repeat' ((conv=>whnf);first|with_reducible apply aO|((with_reducible apply fk)<;>intro hc<;>try exact bQ)|(((with_reducible apply And.intro);focus (rw[e1];omega)))|((refine⟨_,La _ _ e1 hm,?_⟩))|(((with_reducible apply And.intro);focus (simp;omega)))|refine aP ?_|fail)
  refine⟨⟨i+1,hlt⟩,dec_lt hlt,aA ?_⟩;repeat' first|apply And.intro|exact aL|fail
  all_goals try (conv=>whnf)
  all_goals first
   |exact bI (by omega) (by omega)
   |(refine eu ?_;rw[hf,List.map_append,getElem!_pos l _ hm];rfl)
 have:i=w:=by simp at hc;omega
 subst this;all_goals exact aL
theorem QJ (l:List Pl)(k w:Int)(h0:0<l.length)(hl:l.length≤8796093022208)(hk:0≤k∧k<l.length)(hw:0≤w∧w≤l.length):dH prog 151 [iX l,ii k,ii w] (iX (fD l k.toNat w.toNat)):=by
 have:=QI l k.toNat w.toNat h0 hl (by omega) (by omega);rwa [Int.toNat_of_nonneg hk.1,Int.toNat_of_nonneg hw.1] at this
theorem QK:bE prog 108 f108:=eZ func108
theorem vo (l:List Fr)(w n:Int)(h:fB l)(hn:0≤n∧n≤18446744073709551615):dH prog 108 [gH l,ii w,uu n] (iX (setOf l w n)):=by
 refine PC.le ?_;refine dA QK ?_;cases hf:kY l n with
 | none=>
   have hF:dH prog 150 [gH l,uu n] (.fF [.agg Tx.c,bl false]):=by
    have:=J7 l n h;rwa [hf] at this
   repeat' ((conv=>whnf);first|with_reducible apply aO|((with_reducible apply fk)<;>intro hc<;>try exact bQ)|(apply aX;refine⟨_,hF,?_⟩)|refine aP ?_|fail)
   repeat' first|apply And.intro|exact aL|fail
   all_goals try (conv=>whnf)
   simp[setOf,hf]
 | some f=>
   obtain⟨⟨f1,f2,f3⟩,f4⟩:=qp h hf;have hF:dH prog 150 [gH l,uu n] (.fF [.agg f.c,bl true]):=by
    have:=J7 l n h;rwa [hf] at this
   have e1 (hpos:0<f.ak.length):IntKind.i64.wrap ((IntKind.u64.wrap (n-f.first)).tmod (IntKind.u64.wrap ((f.ak.map Pl.c).length:Int)))=(n-f.first)%(f.ak.length:Int):=by
    rw[lU (by omega) (by omega),List.length_map,lU (by omega) (by omega),Int.tmod_eq_emod_of_nonneg (by omega)];have h1:=Int.emod_nonneg (n-f.first) (b:=(f.ak.length:Int)) (by omega);have h2:=Int.emod_lt_of_pos (n-f.first) (b:=(f.ak.length:Int)) (by omega);exact bI (by omega) (by omega)
   repeat' ((conv=>whnf);first|with_reducible apply aO|((with_reducible apply fk)<;>intro hc<;>try exact bQ)|(apply aX;refine⟨_,hF,?_⟩)|refine aP ?_|fail)
   ·repeat' first|apply And.intro|exact aL|fail
    all_goals try (conv=>whnf)
    simp only[l9,Gu,jg] at *;simp only[setOf,hf];rw[if_neg (by omega)];rfl
   ·repeat' first|apply And.intro|exact aL|fail
    all_goals try (conv=>whnf)
    simp only[l9,Gu,jg] at *;simp only[setOf,hf];rw[if_neg (by omega)];rfl
   simp at hc;rename_i hc1;simp at hc1;have hpos:0<f.ak.length:=by omega
   have e1:=e1 hpos;have h1:=Int.emod_nonneg (n-f.first) (b:=(f.ak.length:Int)) (by omega);have h2:=Int.emod_lt_of_pos (n-f.first) (b:=(f.ak.length:Int)) (by omega);repeat' ((conv=>whnf);first|with_reducible apply aO|((with_reducible apply fk)<;>intro hc<;>try exact bQ)|(((with_reducible apply And.intro);focus (rw[List.length_map,lU (by omega) (by omega)];omega)))|(apply aX;refine⟨_,QJ _ _ _ hpos f3 (by rw[e1];exact⟨h1,h2⟩) ⟨by omega,hc⟩,?_⟩)|refine aP ?_|fail)
   repeat' first|apply And.intro|exact aL|fail
   all_goals try (conv=>whnf)
   refine eu ?_;rw[e1];simp only[setOf,hf];rw[if_pos (by omega)]
end Go.Proofs.YtfoiekbkkbnpkaaGreat.Tb
end
section
open Go Go.Proofs.Tryz Go.AX
namespace Go.Proofs.YtfoiekbkkbnpkaaGreat.Tb
end Go.Proofs.YtfoiekbkkbnpkaaGreat.Tb
end
section
open Go Go.Proofs.Tryz Go.AX
namespace Go.Proofs.YtfoiekbkkbnpkaaGreat.Tb
theorem F4:bE prog 75 f75:=eZ func75
theorem I4 (a b:Int):dH prog 75 [.agg [ii a,uu b]] (bl (qO ⟨a,b⟩)):=by
 refine PC.le ?_;refine dA F4 ?_;repeat' ((conv=>whnf);first|with_reducible apply aO|((with_reducible apply fk)<;>intro hc<;>try exact bQ)|refine aP ?_|fail)
 all_goals
  repeat' first|apply And.intro|exact aL|fail
  all_goals try (conv=>whnf)
  simp only[qO,dO];simp only[l9,Gu] at *;first
   |(symm;simp only[Bool.and_eq_false_iff,Gu];omega)
   |(rw[Bool.eq_iff_iff];simp only[Bool.and_eq_true,l9];omega)
theorem wJ:bE prog 25 f25:=eZ func25
theorem I5 (w:Int)(l:List Fr):dH prog 25 [ii w,gH l] (bl (iO w l)):=by
 refine PC.le (jN wJ fun hb=>?_);have hb:l.length≤9223372036854775807:=by simpa[Br,wV,gH] using hb
 refine dA wJ ?_;cases hf1:pQ l with
 | false=>
   cases l with
   | nil=>
     repeat' ((conv=>whnf);first|with_reducible apply aO|((with_reducible apply fk)<;>intro hc<;>try exact bQ)|refine aP ?_|fail)
     repeat' first|apply And.intro|exact aL|fail
     all_goals try (conv=>whnf)
     all_goals simp[iO,dO]
   | cons x r=>
     repeat' ((conv=>whnf);first|with_reducible apply aO|((with_reducible apply fk)<;>intro hc<;>try exact bQ)|((refine⟨_,rfl,?_⟩))|refine aP ?_|fail)
     all_goals try (exfalso;simp[pQ] at hf1 hc;exact hf1 hc)
     all_goals
      repeat' first|apply And.intro|exact aL|fail
      all_goals try (conv=>whnf)
      all_goals (simp only[iO,hf1,Bool.false_and,Bool.and_false])
 | true=>
   obtain⟨h0,e0⟩:=(rO l).1 hf1;have hrow:(l.map Fr.c)[(0:Int).toNat]? = some l[0].c:=eD Fr.c l 0 h0;have hlen:(¬(1≤l.length∧l.length≤6))→iO w l=false:=fun h=>by
    cases e:iO w l with
    |false=>rfl
    |true=>exact absurd ⟨((iP w l).1 e).1,((iP w l).1 e).2.1⟩ h
   repeat' ((conv=>whnf);first|with_reducible apply aO|((with_reducible apply fk)<;>intro hc<;>try exact bQ)|((refine⟨_,hrow,?_⟩))|refine aP ?_|fail)
   ·repeat' first|apply And.intro|exact aL|fail
    all_goals try (conv=>whnf)
    exact (hlen (by simp at *;omega)).symm
   ·repeat' first|apply And.intro|exact aL|fail
    all_goals try (conv=>whnf)
    exact (hlen (by simp at *;omega)).symm
   ·exfalso;simp[e0] at hc
   have h6:1≤l.length∧l.length≤6:=by simp at *;omega
   refine⟨{k:Nat // k≤l.length∧∀j (hj:j<l.length),j<k→rM w l j hj},fun⟨k,_⟩=>⟨[(0,.pv (ii w)),(1,.pv (gH l)),(5,.pv (ii k))],1000000000,[]⟩,fun⟨k,_⟩=>l.length-k,⟨⟨0,by simp⟩,aA ?_⟩,?_⟩
   ·all_goals exact aL
   rintro⟨k,hk,hn⟩
   repeat' ((conv=>whnf);first|with_reducible apply aO|((with_reducible apply fk)<;>intro hc<;>try exact bQ)|refine aP ?_|fail)
   ·have hlt:k<l.length:=by simpa using hc
    have hbad:¬rM w l k hlt→iO w l=false:=Iy hlt;have e1 (h:0<k):IntKind.i64.wrap (((k:Nat):Int)-1)=((k-1:Nat):Int):=by rw[bI (by omega) (by omega)];omega
    refine⟨_,eD _ _ _ hlt,?_⟩;repeat' ((conv=>whnf);first|with_reducible apply aO|((with_reducible apply fk)<;>intro hc<;>try exact bQ)|((refine⟨_,eD _ _ _ hlt,?_⟩))|((refine⟨by rw[e1 (by simp at hc;omega)];omega,_,La _ _ (e1 (by simp at hc;omega)) (by omega),?_⟩))|refine aP ?_|fail)
    all_goals
     first
      |(have hgood:(∀x∈l[k].ak,qO x=true)→(l[k].ak.map (·.node)).Nodup→rM w l k hlt:=(by intro h1 h2;simp only[l9,Gu,jg] at *;exact⟨by omega,fun h=>by omega,by omega,by omega,List.all_eq_true.2 h1,h2⟩))
      |((repeat' first|apply And.intro|exact aL|fail);(all_goals try (conv=>whnf));exact (hbad (by rintro⟨g1,g2,g3,g4,_⟩;simp only[l9,Gu,jg] at *;by_cases hk0:0<k<;>first|omega|(have g2:=g2 hk0;omega))).symm)
    all_goals
     repeat' ((conv=>whnf);first|with_reducible apply aO|((with_reducible apply fk)<;>intro hc<;>try exact bQ)|refine aP ?_|fail)
     generalize hbk:l[k].ak=bk at *;have hbl:bk.length≤5:=by simp only[l9,Gu,jg] at *;omega
     refine⟨{j:Nat // j≤bk.length∧(∀i (hi:i<bk.length),i<j→qO bk[i]=true)∧((bk.take j).map (·.node)).Nodup},fun⟨j,_⟩=>⟨[(0,.pv (ii w)),(1,.pv (gH l)),(5,.pv (ii k)),(6,.pv (iX bk)),(7,.pv (ii j))],1000000000,[]⟩,fun⟨j,_⟩=>bk.length-j,⟨⟨0,by simp⟩,aA ?_⟩,?_⟩
     ·all_goals exact aL
     rintro⟨j,hj,hm,hd⟩
     repeat' ((conv=>whnf);first|with_reducible apply aO|((with_reducible apply fk)<;>intro hc<;>try exact bQ)|refine aP ?_|fail)
     ·have hjl:j<bk.length:=by simpa using hc
      refine⟨_,eD _ _ _ hjl,?_⟩;repeat' ((conv=>whnf);first|with_reducible apply aO|((with_reducible apply fk)<;>intro hc<;>try exact bQ)|(apply aX;refine⟨_,I4 _ _,?_⟩)|refine aP ?_|fail)
      ·repeat' first|apply And.intro|exact aL|fail
       all_goals try (conv=>whnf)
       refine (hbad fun g=>?_).symm;have:=List.all_eq_true.1 g.2.2.2.2.1 bk[j] (by rw[hbk];exact List.getElem_mem hjl);rw[Pl.eta] at hc;rw[this] at hc;cases hc
      repeat' ((conv=>whnf);first|with_reducible apply aO|((with_reducible apply fk)<;>intro hc<;>try exact bQ)|refine aP ?_|fail)
      refine⟨{i:Nat // i≤j∧∀x (hx:x<bk.length),x<i→bk[x].node≠bk[j].node},fun⟨i,_⟩=>⟨[(0,.pv (ii w)),(1,.pv (gH l)),(5,.pv (ii k)),(6,.pv (iX bk)),(7,.pv (ii j)),(8,.pv (ii i))],1000000000,[]⟩,fun⟨i,_⟩=>j-i,⟨⟨0,by simp⟩,aA ?_⟩,?_⟩
      ·all_goals exact aL
      have hpl:qO bk[j]=true:=by rw[Pl.eta] at hc;simpa using hc
      rintro⟨i,hi,hx⟩
      repeat' ((conv=>whnf);first|with_reducible apply aO|((with_reducible apply fk)<;>intro hc<;>try exact bQ)|refine aP ?_|fail)
      ·have hij:i<j:=by simpa using hc
       refine⟨_,eD _ _ _ (by omega:i<bk.length),?_⟩;repeat' ((conv=>whnf);first|with_reducible apply aO|((with_reducible apply fk)<;>intro hc<;>try exact bQ)|((refine⟨_,eD _ _ _ hjl,?_⟩))|refine aP ?_|fail)
       ·repeat' first|apply And.intro|exact aL|fail
        all_goals try (conv=>whnf)
        refine (hbad fun g=>?_).symm;have:=g.2.2.2.2.2;rw[hbk] at this;have:=List.pairwise_iff_getElem.1 this i j (by simp;omega) (by simp;omega) hij;simp at this hc;exact this hc
       repeat' ((conv=>whnf);first|with_reducible apply aO|((with_reducible apply fk)<;>intro hc<;>try exact bQ)|refine aP ?_|fail)
       refine⟨⟨i+1,hij,eX hx fun _=>by simpa using hc⟩,dec_lt hij,aA ?_⟩;repeat' first|apply And.intro|exact aL|fail
       all_goals try (conv=>whnf)
       exact bI (by omega) (by omega)
      have hij:i=j:=by simp at hc;omega
      subst hij;repeat' ((conv=>whnf);first|with_reducible apply aO|((with_reducible apply fk)<;>intro hc<;>try exact bQ)|refine aP ?_|fail)
      refine⟨⟨i+1,hjl,eX hm fun _=>hpl,Iz hjl hd hx⟩,dec_lt hjl,aA ?_⟩;repeat' first|apply And.intro|exact aL|fail
      all_goals try (conv=>whnf)
      exact bI (by omega) (by omega)
     have hj:j=bk.length:=by simp at hc;omega
     subst hj;repeat' ((conv=>whnf);first|with_reducible apply aO|((with_reducible apply fk)<;>intro hc<;>try exact bQ)|refine aP ?_|fail)
     refine⟨⟨k+1,hlt,eX hn fun _=>hgood (u7 hm) (by simpa using hd)⟩,dec_lt hlt,aA ?_⟩;repeat' first|apply And.intro|exact aL|fail
     all_goals try (conv=>whnf)
     exact bI (by omega) (by omega)
   repeat' first|apply And.intro|exact aL|fail
   all_goals try (conv=>whnf)
   have:k=l.length:=by simp at hc;omega
   subst this;exact ((iP w l).2 ⟨h6.1,h6.2,hf1,fun j hj=>hn j hj hj⟩).symm
theorem Dx:bE prog 21 f21:=eZ func21
theorem F5 (l:Lg)(hr : -9223372036854775808≤l.closed∧l.closed≤9223372036854775807∧0≤l.last):dH prog 21 [.agg l.c] (bl (jO l)):=by
 refine PC.le ?_;obtain⟨X,hX⟩:∃X,X=jO l:=⟨_,rfl⟩;rw[←hX];refine dA Dx ?_;repeat' ((conv=>whnf);first|with_reducible apply aO|((with_reducible apply fk)<;>intro hc<;>try exact bQ)|(apply aX;refine⟨_,I5 _ _,?_⟩)|refine aP ?_|fail)
 all_goals
  repeat' first|apply And.intro|exact aL|fail
  all_goals try (conv=>whnf)
  subst hX;simp only[jO,dO];grind
theorem zR:bE prog 126 f126:=eZ func126
theorem Ci (l:List Fr)(n:Int):dH prog 126 [gH l,uu n] (ii (jW (fun f=>decide (f.first≤n)) l)):=by
 refine PC.le (jN zR fun hb=>?_);have hb:l.length≤9223372036854775807:=by simpa[Br,wV,gH] using hb
 refine dA zR ?_;repeat' ((conv=>whnf);first|with_reducible apply aO|((with_reducible apply fk)<;>intro hc<;>try exact bQ)|refine aP ?_|fail)
 refine⟨{k:Nat // k≤l.length∧∀j (hj:j<l.length),k≤j→decide (l[j].first≤n)=false},fun⟨k,_⟩=>⟨[(0,.pv (gH l)),(1,.pv (uu n)),(5,.pv (ii (((k:Nat):Int)-1)))],1000000000,[]⟩,fun⟨k,_⟩=>k,⟨⟨l.length,Nat.le_refl _,fun j hj h=>by omega⟩,aA ?_⟩,?_⟩
 ·repeat' first|apply And.intro|exact aL|fail
  all_goals try (conv=>whnf)
  rw[bI (by simp;omega) (by simp;omega),List.length_map]
 rintro⟨k,hk,hn⟩
 repeat' ((conv=>whnf);first|with_reducible apply aO|((with_reducible apply fk)<;>intro hc<;>try exact bQ)|refine aP ?_|fail)
 ·have hlt:k-1<l.length∧1≤k:=by simp at hc;omega
  repeat' ((conv=>whnf);first|with_reducible apply aO|((with_reducible apply fk)<;>intro hc<;>try exact bQ)|((refine⟨by simp at hc;omega,_,La _ _ (k:=k-1) (by omega) hlt.1,?_⟩))|refine aP ?_|fail)
  ·repeat' first|apply And.intro|exact aL|fail
   all_goals try (conv=>whnf)
   rw[BJ _ hlt.1 (fun j hj h=>hn j hj (by omega)) hc];omega
  repeat' ((conv=>whnf);first|with_reducible apply aO|((with_reducible apply fk)<;>intro hc<;>try exact bQ)|refine aP ?_|fail)
  refine⟨⟨k-1,by omega,fun j hj h=>?_⟩,(show k-1<k by omega),aA ?_⟩
  ·by_cases e:j=k-1
   ·subst e;exact hc
   exact hn j hj (by omega)
  repeat' first|apply And.intro|exact aL|fail
  all_goals try (conv=>whnf)
  rw[bI (by omega) (by omega)];omega
 repeat' first|apply And.intro|exact aL|fail
 all_goals try (conv=>whnf)
 rw[pU _ (fun x hx=>?_)];obtain⟨j,hj,rfl⟩:=List.getElem_of_mem hx;exact hn j hj (by simp at hc;omega)
theorem Cj:bE prog 73 f73:=eZ func73
theorem zH (l:List Fr)(w n:Int)(h:fB l)(hn:0≤n∧n≤18446744073709551615):dH prog 73 [gH l,ii w,uu n] (iX (setOf l w n)):=by
 refine PC.le (jN Cj fun hb=>?_);have hb:l.length≤9223372036854775807:=by simpa[Br,wV,gH] using hb
 refine dA Cj ?_;rcases tQ (fun f:Fr=>decide (f.first≤n)) l with ⟨e1,e2⟩|⟨k,hk,e1,e2⟩
 ·have hF:dH prog 126 [gH l,uu n] (ii (-1)):=e1▸Ci l n;repeat' ((conv=>whnf);first|with_reducible apply aO|((with_reducible apply fk)<;>intro hc<;>try exact bQ)|(apply aX;refine⟨_,hF,?_⟩)|refine aP ?_|fail)
  repeat' first|apply And.intro|exact aL|fail
  all_goals try (conv=>whnf)
  simp[setOf,kY,e2]
 have hF:dH prog 126 [gH l,uu n] (ii (k:Nat)):=e1▸Ci l n;have hf:kY l n=some l[k]:=e2;obtain⟨⟨f1,f2,f3⟩,f4⟩:=qp h hf;repeat' ((conv=>whnf);first|with_reducible apply aO|((with_reducible apply fk)<;>intro hc<;>try exact bQ)|(apply aX;refine⟨_,hF,?_⟩)|((refine⟨_,eD _ _ _ hk,?_⟩))|refine aP ?_|fail)
 all_goals try (exfalso;grind)
 ·repeat' first|apply And.intro|exact aL|fail
  all_goals try (conv=>whnf)
  simp only[l9,Gu,jg] at *;simp only[setOf,hf];rw[if_neg (by omega)];rfl
 ·repeat' first|apply And.intro|exact aL|fail
  all_goals try (conv=>whnf)
  simp only[l9,Gu,jg] at *;simp only[setOf,hf];rw[if_neg (by omega)];rfl
 have hw:1≤w∧w≤l[k].ak.length:=by simp only[l9,Gu,jg] at *;omega
 have hpos:0<l[k].ak.length:=by omega
 have hlow:=Int.emod_nonneg (n-l[k].first) (b:=(l[k].ak.length:Int)) (by omega);have hup:=Int.emod_lt_of_pos (n-l[k].first) (b:=(l[k].ak.length:Int)) (by omega);have eI:IntKind.i64.wrap ((IntKind.u64.wrap (n-l[k].first)).tmod (IntKind.u64.wrap ((l[k].ak.map Pl.c).length:Int)))=(n-l[k].first)%(l[k].ak.length:Int):=by
  rw[lU (by omega) (by omega),List.length_map,lU (by omega) (by omega),Int.tmod_eq_emod_of_nonneg (by omega)];exact bI (by omega) (by omega)
 obtain⟨c,hc0⟩:∃c:Nat,c=((n-l[k].first)%(l[k].ak.length:Int)).toNat:=⟨_,rfl⟩;have hcl:c<l[k].ak.length:=by omega
 have hset:setOf l w n=fD l[k].ak c w.toNat:=by simp only[setOf,hf];rw[if_pos hw,hc0]
 have hcs:∀i,fD l[k].ak c (i+1)=fD l[k].ak c i++[l[k].ak[(c+i)%l[k].ak.length]!]:=fun i=>by simp[fD,List.range_succ]
 have hfl:∀i,(fD l[k].ak c i).length=i:=fun i=>by simp[fD]
 rw[hset];generalize hbk:l[k].ak=bk at *;repeat' ((conv=>whnf);first|with_reducible apply aO|((with_reducible apply fk)<;>intro hc<;>try exact bQ)|(((with_reducible apply And.intro);focus (rw[List.length_map,lU (by omega) (by omega)];omega)))|refine aP ?_|fail)
 refine⟨{i:Nat // i≤w.toNat},fun⟨i,_⟩=>⟨[(1,.pv (ii w)),(8,.aG 1008 0),(9,.pv (iX bk)),(10,.pv (ii (((c+i)%bk.length:Nat):Int)))],1000000000,[(1008,.arr 27 0 2 ((fD bk c i).map Pl.c))]⟩,fun⟨i,_⟩=>w.toNat-i,⟨⟨0,Nat.zero_le _⟩,aA ?_⟩,?_⟩
 ·repeat' first|apply And.intro|exact aL|fail
  all_goals try (conv=>whnf)
  rw[eI,Nat.add_zero,Nat.mod_eq_of_lt hcl];omega
 rintro⟨i,hi⟩
 have hm:(c+i)%bk.length<bk.length:=Nat.mod_lt _ hpos;have hwr:IntKind.i64.wrap ((((c+i)%bk.length:Nat):Int)+1)=(((c+i)%bk.length+1:Nat):Int):=by rw[bI (by omega) (by omega)];omega
 have hrow:[(bk[(c+i)%bk.length]).c]=[bk[(c+i)%bk.length]!].map Pl.c:=by rw[getElem!_pos bk _ hm];rfl
 have X7:=mod_succ (c+i) bk.length hpos;repeat' ((conv=>whnf);first|with_reducible apply aO|((with_reducible apply fk)<;>intro hc<;>try exact bQ)|refine aP ?_|fail)
 ·have hiw:i<w.toNat:=by simp[hfl] at hc;omega
  refine⟨_,eD _ _ _ hm,?_⟩;repeat' ((conv=>whnf);first|with_reducible apply aO|((with_reducible apply fk)<;>intro hc<;>try exact bQ)|(((with_reducible apply And.intro);focus (simp[hfl];omega)))|refine aP ?_|fail)
  ·rw[hwr] at hc;rw[beq_iff_eq,List.length_map,Int.ofNat_inj] at hc;rw[if_pos hc] at X7;refine⟨⟨i+1,hiw⟩,dec_lt hiw,aA ?_⟩;repeat' first|apply And.intro|exact aL|fail
   all_goals try (conv=>whnf)
   all_goals first
    |(refine eu ?_;rw[hcs,List.map_append,←hrow];rfl)
    |(rw[←Nat.add_assoc,X7];rfl)
  rw[hwr] at hc;rw[beq_eq_false_iff_ne,ne_eq,List.length_map,Int.ofNat_inj] at hc;rw[if_neg hc] at X7;refine⟨⟨i+1,hiw⟩,dec_lt hiw,aA ?_⟩;repeat' first|apply And.intro|exact aL|fail
  all_goals try (conv=>whnf)
  all_goals first
   |(refine eu ?_;rw[hcs,List.map_append,←hrow];rfl)
   |(rw[←Nat.add_assoc,X7];exact hwr)
 have:i=w.toNat:=by simp[hfl] at hc;omega
 subst this;all_goals exact aL
theorem Gd:bE prog 57 f57:=eZ func57
theorem qE (l:List Pl)(a b:Int):dH prog 57 [iX l,.agg [ii a,uu b]] (bl (l.any (· == ⟨a,b⟩))):=by
 refine PC.le (jN Gd fun hb=>?_);have hb:l.length≤9223372036854775807:=by simpa[Br,wV,iX] using hb
 refine dA Gd ?_;repeat' ((conv=>whnf);first|with_reducible apply aO|((with_reducible apply fk)<;>intro hc<;>try exact bQ)|refine aP ?_|fail)
 refine⟨{k:Nat // k≤l.length∧∀j (hj:j<l.length),j<k→(l[j]==(⟨a,b⟩:Pl))=false},fun⟨k,_⟩=>⟨[(0,.pv (iX l)),(3,.ptr 1003 0),(5,.pv (ii k))],1000000000,[(1003,.var [.pv (ii a),.pv (uu b)])]⟩,fun⟨k,_⟩=>l.length-k,⟨⟨0,by simp⟩,aA ?_⟩,?_⟩
 ·all_goals exact aL
 rintro⟨k,hk,hn⟩
 repeat' ((conv=>whnf);first|with_reducible apply aO|((with_reducible apply fk)<;>intro hc<;>try exact bQ)|refine aP ?_|fail)
 ·have hlt:k<l.length:=by simpa using hc
  refine⟨_,eD _ _ _ hlt,?_⟩;repeat' ((conv=>whnf);first|with_reducible apply aO|((with_reducible apply fk)<;>intro hc<;>try exact bQ)|refine aP ?_|fail)
  ·repeat' first|apply And.intro|exact aL|fail
   all_goals try (conv=>whnf)
   simp only[Pl.VO] at hc;exact (List.any_eq_true.2 ⟨l[k],List.getElem_mem hlt,hc⟩).symm
  refine⟨⟨k+1,hlt,eX hn fun _=>by simpa only[Pl.VO] using hc⟩,dec_lt hlt,aA ?_⟩;repeat' first|apply And.intro|exact aL|fail
  all_goals try (conv=>whnf)
  exact bI (by omega) (by omega)
 repeat' first|apply And.intro|exact aL|fail
 all_goals try (conv=>whnf)
 have:k=l.length:=by simp at hc;omega
 subst this;have:=u7 (q:=fun p:Pl=>(p==(⟨a,b⟩:Pl))=false) hn;exact (List.any_eq_false.2 fun x hx=>by rw[this x hx];simp).symm
theorem DR:bE prog 152 f152:=eZ func152
theorem Gf (l:Lg)(hr : -9223372036854775808≤l.closed∧l.closed≤9223372036854775807∧0≤l.last):dH prog 152 [.agg l.c] (bl (gJ l)):=by
 refine PC.le ?_;refine dA DR ?_;repeat' ((conv=>whnf);first|with_reducible apply aO|((with_reducible apply fk)<;>intro hc<;>try exact bQ)|(apply aX;refine⟨_,F5 _ hr,?_⟩)|refine aP ?_|fail)
 all_goals
  repeat' first|apply And.intro|exact aL|fail
  all_goals try (conv=>whnf)
  all_goals simp_all [gJ]
theorem Jf (l:Lg)(f:Pl)(k:Nat):cO l f 0 0=(((List.range' 0 k).map fun (i:Nat)=>0+1+(i:Int)).filter fun n=>(setOf l.au l.w n).any (· == f))++cO l f 0 k∨(l.last-0).toNat<k:=by
 by_cases h:(l.last-0).toNat<k
 ·exact .inr h
 refine .inl ?_;unfold cO;rw[←List.filter_append,←List.map_append,Nat.sub_zero];congr 2
 have:=List.range'_append (s:=0) (m:=k) (n:=(l.last-0).toNat-k) (step:=1);simp only[Nat.one_mul,Nat.zero_add] at this;rw[this];congr 1
 omega
theorem LV:bE prog 113 f113:=eZ func113
theorem O7 (l:Lg)(from_:Pl)(hr : -9223372036854775808≤l.closed∧l.closed≤9223372036854775807∧0≤l.last)(hf:fB l.au):dH prog 113 [.agg l.c,.agg from_.c] (xD (dQ l from_ 0)):=by
 refine PC.le ?_;refine dA LV ?_;repeat' ((conv=>whnf);first|with_reducible apply aO|((with_reducible apply fk)<;>intro hc<;>try exact bQ)|(apply aX;refine⟨_,Gf _ hr,?_⟩)|refine aP ?_|fail)
 ·have:dQ l from_ 0=[]:=by unfold dQ;rw[if_neg (by simp_all)]
  rw[this];all_goals exact aL
 have hcl:gJ l=true:=by simpa using hc
 obtain⟨hl8,hmay⟩:=pV hcl;have hL:dQ l from_ 0=cO l from_ 0 0:=by
  unfold dQ;split
  ·rfl
  rename_i hn;simp only[hcl,Bool.true_and,l9] at hn;exact (gW l from_ 0 0 (by omega)).symm
 refine⟨{k:Nat×List Int // (k.1:Int)≤l.last∧k.2.length≤k.1∧dQ l from_ 0=k.2++cO l from_ 0 k.1},fun⟨(k,o),_⟩=>⟨[(2,.ptr 1002 0),(3,.ptr 1003 0),(5,.aG 1005 0),(6,.pv (uu (1+(k:Int))))],1000000000,[(1002,.var [.pv (uu l.id),.pv (ii l.w),.pv (ii l.a),.pv (gH l.au),.pv (ii l.closed),.pv (uu l.last)]),(1003,.var [.pv (ii from_.node),.pv (uu from_.aM)]),(1005,.arr 22 0 1 (o.map Iq))]⟩,fun⟨(k,_),_⟩=>l.last.toNat-k,⟨⟨(0,[]),by simp;omega,by simp,by rw[hL];rfl⟩,aA ?_⟩,?_⟩
 ·all_goals exact aL
 rintro⟨⟨k,o⟩,hk,ho,he⟩
 simp only at hk ho he;have e1:(0+1+(k:Int))=1+(k:Int):=by omega
 have ek:IntKind.u64.wrap (1+(k:Int)+1)=1+((k+1:Nat):Int):=by rw[lU (by omega) (by omega)];omega
 repeat' ((conv=>whnf);first|with_reducible apply aO|((with_reducible apply fk)<;>intro hc<;>try exact bQ)|refine aP ?_|fail)
 ·have hle:0+1+(k:Int)≤l.last:=by simp at hc;omega
  have hs:=j5 l from_ 0 k hle;rw[e1] at hs hle;repeat' ((conv=>whnf);first|with_reducible apply aO|((with_reducible apply fk)<;>intro hc<;>try exact bQ)|(apply aX;refine⟨_,zH _ _ _ hf (by omega),?_⟩)|(apply aX;refine⟨_,qE _ _ _,?_⟩)|(((with_reducible apply And.intro);focus (simp only[jg,tF,uX];omega)))|refine aP ?_|fail)
  ·have hp:((setOf l.au l.w (1+(k:Int))).any (· == from_))=true:=hc;rw[if_pos hp] at hs;refine⟨⟨(k+1,o++[1+(k:Int)]),by simp only;omega,by simp;omega,by rw[he,hs];simp⟩,dec_lt (by omega),aA ?_⟩;repeat' first|apply And.intro|exact aL|fail
   all_goals try (conv=>whnf)
   ·refine eu ?_;rw[List.map_append];rfl
   exact ek
  have hp:((setOf l.au l.w (1+(k:Int))).any (· == from_))=false:=hc;rw[if_neg (by rw[hp];simp)] at hs;refine⟨⟨(k+1,o),by simp only;omega,by simp only;omega,by rw[he,hs]⟩,dec_lt (by omega),aA ?_⟩;repeat' first|apply And.intro|exact aL|fail
  all_goals try (conv=>whnf)
  exact ek
 have he2:dQ l from_ 0=o:=by rw[he,gW l from_ 0 k (by simp at hc;omega),List.append_nil]
 repeat' first|apply And.intro|exact aL|fail
 all_goals try (conv=>whnf)
 all_goals (rw[he2];exact bH _)
theorem xH (x y:Pl):((x.node==y.node)&&(x.aM==y.aM))=(x==y):=by
 rw[Bool.eq_iff_iff];obtain⟨_,_⟩:=x;obtain⟨_,_⟩:=y;simp
theorem uw:bE prog 58 f58:=eZ func58
theorem BZ:bE prog 59 f59:=eZ func59
theorem jE {α:Type}(p:α→Bool)(l:List α)(k:Nat)(h:k<l.length):(l.take (k+1)).filter p=(l.take k).filter p++(if p l[k] then [l[k]] else []):=by
 rw[List.take_succ_eq_append_getElem h,List.filter_append];congr 1
 cases e:p l[k]<;>simp[e]
theorem lH {l:List Fr}(h:∀f∈l,f.ak.length≤50)(w n:Int):(setOf l w n).length≤50:=by
 unfold setOf;split
 ·simp
 rename_i f hf;have h1:=(qo _ _ _ hf).1;have:=h f h1;split
 ·simp only[fD,jg,List.length_range];omega
 simp
theorem wM (c:Cp)(hf:fB c.l.au)(hn:gL c.n)(hs:(setOf c.l.au c.l.w c.n).length≤1000000):dH prog 58 [.agg c.c] (iX (others c)):=by
 have hse:=zH c.l.au c.l.w c.n hf hn;unfold others;obtain⟨st,hst⟩:∃st,setOf c.l.au c.l.w c.n=st:=⟨_,rfl⟩;rw[hst] at hse hs ⊢;clear hst;refine PC.le ?_;refine dA uw ?_;repeat' ((conv=>whnf);first|with_reducible apply aO|((with_reducible apply fk)<;>intro hc<;>try exact bQ)|(apply aX;refine⟨_,hse,?_⟩)|refine aP ?_|fail)
 refine⟨{k:Nat // k≤st.length},fun⟨k,_⟩=>⟨[(1,.ptr 1001 0),(3,.aG 1003 0),(4,.pv (iX st)),(5,.pv (ii k))],1000000000,[(1001,.var (c.c.map .pv)),(1003,.arr 27 0 2 (((st.take k).filter fun p=>!(p==c.from_)).map Pl.c))]⟩,fun⟨k,_⟩=>st.length-k,⟨⟨0,Nat.zero_le _⟩,aA ?_⟩,?_⟩
 ·all_goals exact aL
 rintro⟨k,hk⟩
 dsimp only
 by_cases hlt:k<st.length
 rotate_left
 ·have hke:k=st.length:=by omega
  subst hke;have d0:decide ((st.length:Int)<((st.map Pl.c).length:Int))=false:=by simp
  rw[List.take_length];repeat' ((conv=>whnf);first|with_reducible apply aO|((with_reducible apply fk)<;>intro hc<;>try exact cu)|refine aP ?_|fail)
  all_goals exact aL
 have d0:decide ((k:Int)<((st.map Pl.c).length:Int))=true:=by simp only[jg,l9];omega
 have eW:IntKind.i64.wrap ((k:Int)+1)=((k+1:Nat):Int):=by rw[bI (by omega) (by omega)];omega
 have hr:=eD Pl.c st k hlt;have hfs:=jE (fun p=>!(p==c.from_)) st k hlt;have hfl:=List.length_filter_le (fun p=>!(p==c.from_)) (st.take k);have htl:(st.take k).length=k:=by rw[List.length_take];omega
 have hbq:=xH st[k] c.from_;obtain⟨y,hy⟩:∃y,st[k]=y:=⟨_,rfl⟩;rw[hy] at hr hfs hbq;clear hy hse;cases e1:(y==c.from_) with
 | true=>
   rw[e1] at hbq hfs;simp only[Bool.not_true,Bool.false_eq_true,↓reduceIte,List.append_nil] at hfs;replace hfs:=Hd.mk hfs;clear e1;simp only[Pl.c] at hr;repeat' ((conv=>whnf);first|with_reducible apply aO|((with_reducible apply fk)<;>intro hc<;>try exact cu)|((refine⟨_,hr,?_⟩))|refine aP ?_|fail)
   refine⟨⟨k+1,hlt⟩,dec_lt hlt,aA ?_⟩;dsimp only
   rw[hfs.out];repeat' first|apply And.intro|exact aL|fail
   all_goals try (conv=>whnf)
   all_goals exact eW
 | false=>
   rw[e1] at hbq hfs;simp only[Bool.not_false,↓reduceIte] at hfs;replace hfs:=Hd.mk hfs;clear e1;simp only[Pl.c] at hr;repeat' ((conv=>whnf);first|with_reducible apply aO|((with_reducible apply fk)<;>intro hc<;>try exact cu)|((refine⟨_,hr,?_⟩))|(((with_reducible apply And.intro);focus (simp only[jg,tF,uX];omega)))|refine aP ?_|fail)
   refine⟨⟨k+1,hlt⟩,dec_lt hlt,aA ?_⟩;dsimp only
   rw[hfs.out,List.map_append];repeat' first|apply And.intro|exact aL|fail
   all_goals try (conv=>whnf)
   all_goals first
    |exact eW
    |(refine gU (bH _) ?_;(repeat' first|apply And.intro|exact aL|fail);(all_goals try (conv=>whnf)))
    |skip
def Gg (c:Cp)(no l:List Pl):List Rq:=(l.filter fun p=>!no.any (· == p)).map fun p=>⟨p,3,c.l.id,c.n,0,0,0,[],[]⟩
theorem Ca (c:Cp)(no l:List Pl)(k:Nat)(h:k<l.length):Gg c no (l.take (k+1))=Gg c no (l.take k)++(if no.any (· == l[k]) then [] else [⟨l[k],3,c.l.id,c.n,0,0,0,[],[]⟩]):=by
 unfold Gg;rw[jE _ l k h,List.map_append];congr 1
 cases e:no.any (· == l[k])<;>simp[e]
theorem Gh (c:Cp)(no l:List Pl):(Gg c no l).length≤l.length:=by
 unfold Gg;rw[List.length_map];exact List.length_filter_le _ _
theorem zI (c:Cp)(now:Int)(hf:fB c.l.au)(hn:gL c.n)(hs:(setOf c.l.au c.l.w c.n).length≤1000000)(hb:c.body.length≤1000000) :
  dH prog 59 [.agg c.c,uu now] (.fF [.agg (iC c now).1.c,BG (iC c now).2]):=by
 refine PC.le ?_;cases p2:(c.phase==2) with
 | true=>
   have e:iC c now=({ c with since:=now },[⟨c.to,1,c.l.id,c.n,0,c.l.last,1,c.body,[]⟩]):=by unfold iC;rw[if_pos (by simpa using p2)]
   rw[e];refine dA BZ ?_;repeat' ((conv=>whnf);first|with_reducible apply aO|((with_reducible apply fk)<;>intro hc<;>try exact cu)|(((with_reducible apply And.intro);focus (simp only[jg,tF,uX];omega)))|refine aP ?_|fail)
   all_goals exact aL
 |false=>
 have Jg:=wM { c with since:=now } hf hn hs;have K3:(others c).length≤1000000:=Nat.le_trans (List.length_filter_le _ _) hs;have e:iC c now=({ c with since:=now,none:=if (others c).all fun p=>c.none.any (· == p) then [] else c.none },Gg c (if (others c).all fun p=>c.none.any (· == p) then [] else c.none) (others c)):=by unfold iC;rw[if_neg (by simpa using p2)];rfl
 rw[e];clear e;rw[show others { c with since:=now }=others c from rfl] at Jg;obtain⟨st,hst⟩:∃st,others c=st:=⟨_,rfl⟩;rw[hst] at Jg K3 ⊢;clear hst hs hf hn;refine dA BZ ?_;repeat' ((conv=>whnf);first|with_reducible apply aO|((with_reducible apply fk)<;>intro hc<;>try exact cu)|(apply aX;refine⟨_,ai (Jg) ?_,?_⟩;exact aZ)|refine aP ?_|fail)
 clear Jg;refine⟨{k:Nat // k≤st.length},fun⟨k,_⟩=>⟨[(2,.ptr 1002 0),(4,.ptr 1004 0),(6,.pv (iX st)),(7,.pv (bl ((st.take k).all fun p=>c.none.any (· == p)))),(8,.pv (ii k))],1000000000,[(1002,.var (({ c with since:=now }:Cp).c.map .pv)),(1004,.var Cp.z)]⟩,fun⟨k,_⟩=>st.length-k,⟨⟨0,Nat.zero_le _⟩,aA ?_⟩,?_⟩
 ·all_goals exact aL
 rintro⟨k,hk⟩
 dsimp only
 by_cases hlt:k<st.length
 ·have d0:decide ((k:Int)<((st.map Pl.c).length:Int))=true:=by simp only[jg,l9];omega
  have eW:IntKind.i64.wrap ((k:Int)+1)=((k+1:Nat):Int):=by rw[bI (by omega) (by omega)];omega
  have hr:=eD Pl.c st k hlt;have hal:(st.take (k+1)).all (fun p=>c.none.any (· == p))=((st.take k).all (fun p=>c.none.any (· == p))&&c.none.any (· == st[k])):=by
   rw[List.take_succ_eq_append_getElem hlt,List.all_append];simp
  have hin:=qE c.none st[k].node st[k].aM;rw[show (c.none.any fun y=>y==(⟨st[k].node,st[k].aM⟩:Pl))=c.none.any (· == st[k]) from rfl] at hin;have hkm:k<(st.map Pl.c).length:=by rw[List.length_map];exact hlt
  generalize (st.take k).all (fun p=>c.none.any (· == p))=A at *;generalize c.none.any (· == st[k])=B at *;cases A;all_goals
   replace hal:=Hd.mk hal;repeat' ((conv=>whnf);first|with_reducible apply aO|((with_reducible apply fk)<;>intro hc<;>try exact cu)|((refine⟨_,hr,?_⟩))|(apply aX;refine⟨_,ai (hin) ?_,?_⟩;exact aZ)|(((with_reducible apply And.intro);focus (rw[Int.toNat_natCast];exact hkm)))|refine aP ?_|fail)
   refine⟨⟨k+1,hlt⟩,dec_lt hlt,aA ?_⟩;dsimp only
   rw[hal.out];repeat' first|apply And.intro|exact aL|fail
   all_goals try (conv=>whnf)
   all_goals exact eW
 have hke:k=st.length:=by omega
 subst hke;have d0:decide ((st.length:Int)<((st.map Pl.c).length:Int))=false:=by simp
 rw[List.take_length];cases hA:st.all (fun p=>c.none.any (· == p))
 ·simp only[Bool.false_eq_true,↓reduceIte];repeat' ((conv=>whnf);first|with_reducible apply aO|((with_reducible apply fk)<;>intro hc<;>try exact cu)|refine aP ?_|fail)
  refine⟨{k:Nat // k≤st.length},fun⟨k,_⟩=>⟨[(2,.ptr 1002 0),(4,.ptr 1004 0),(6,.pv (iX st)),(9,.aG 1009 0),(10,.pv (ii k))],1000000000,[(1002,.var (({ c with since:=now,none:=c.none }:Cp).c.map .pv)),(1004,.var Cp.z),(1009,.arr 93 0 10 ((Gg c (c.none) (st.take k)).map Rq.c))]⟩,fun⟨k,_⟩=>st.length-k,⟨⟨0,Nat.zero_le _⟩,aA ?_⟩,?_⟩
  ·all_goals exact aL
  clear hA d0;rintro⟨k,hk⟩
  dsimp only
  by_cases hlt:k<st.length
  rotate_left
  ·have hke:k=st.length:=by omega
   subst hke;have d0:decide ((st.length:Int)<((st.map Pl.c).length:Int))=false:=by simp
   rw[List.take_length];repeat' ((conv=>whnf);first|with_reducible apply aO|((with_reducible apply fk)<;>intro hc<;>try exact cu)|refine aP ?_|fail)
   all_goals exact aL
  have d0:decide ((k:Int)<((st.map Pl.c).length:Int))=true:=by simp only[jg,l9];omega
  have eW:IntKind.i64.wrap ((k:Int)+1)=((k+1:Nat):Int):=by rw[bI (by omega) (by omega)];omega
  have hr:=eD Pl.c st k hlt;have hq:=Ca c (c.none) st k hlt;have hql:=Gh c (c.none) (st.take k);have htl:(st.take k).length=k:=by rw[List.length_take];omega
  have hin:=qE (c.none) st[k].node st[k].aM;rw[show ((c.none).any fun y=>y==(⟨st[k].node,st[k].aM⟩:Pl))=(c.none).any (· == st[k]) from rfl] at hin;have hkm:k<(st.map Pl.c).length:=by rw[List.length_map];exact hlt
  generalize (c.none).any (· == st[k])=B at hq hin;cases B with
  | true=>
    simp only[↓reduceIte,List.append_nil] at hq;replace hq:=Hd.mk hq;repeat' ((conv=>whnf);first|with_reducible apply aO|((with_reducible apply fk)<;>intro hc<;>try exact cu)|((refine⟨_,hr,?_⟩))|(apply aX;refine⟨_,ai (hin) ?_,?_⟩;exact aZ)|(((with_reducible apply And.intro);focus (rw[Int.toNat_natCast];exact hkm)))|refine aP ?_|fail)
    refine⟨⟨k+1,hlt⟩,dec_lt hlt,aA ?_⟩;dsimp only
    rw[hq.out];repeat' first|apply And.intro|exact aL|fail
    all_goals try (conv=>whnf)
    all_goals exact eW
  | false=>
    simp only[Bool.false_eq_true,↓reduceIte] at hq;replace hq:=Hd.mk hq;repeat' ((conv=>whnf);first|with_reducible apply aO|((with_reducible apply fk)<;>intro hc<;>try exact cu)|((refine⟨_,hr,?_⟩))|(apply aX;refine⟨_,ai (hin) ?_,?_⟩;exact aZ)|(((with_reducible apply And.intro);focus (rw[Int.toNat_natCast];exact hkm)))|(((with_reducible apply And.intro);focus (simp only[jg,tF,uX];omega)))|refine aP ?_|fail)
    refine⟨⟨k+1,hlt⟩,dec_lt hlt,aA ?_⟩;dsimp only
    rw[hq.out,List.map_append];repeat' first|apply And.intro|exact aL|fail
    all_goals try (conv=>whnf)
    all_goals first
     |exact eW
     |(refine gU (bH _) ?_;(repeat' first|apply And.intro|exact aL|fail);(all_goals try (conv=>whnf)))
     |skip
 simp only[↓reduceIte];repeat' ((conv=>whnf);first|with_reducible apply aO|((with_reducible apply fk)<;>intro hc<;>try exact cu)|refine aP ?_|fail)
 refine⟨{k:Nat // k≤st.length},fun⟨k,_⟩=>⟨[(2,.ptr 1002 0),(4,.ptr 1004 0),(6,.pv (iX st)),(9,.aG 1009 0),(10,.pv (ii k))],1000000000,[(1002,.var (({ c with since:=now,none:=([]:List Pl) }:Cp).c.map .pv)),(1004,.var Cp.z),(1009,.arr 93 0 10 ((Gg c (([]:List Pl)) (st.take k)).map Rq.c))]⟩,fun⟨k,_⟩=>st.length-k,⟨⟨0,Nat.zero_le _⟩,aA ?_⟩,?_⟩
 ·all_goals exact aL
 clear hA d0;rintro⟨k,hk⟩
 dsimp only
 by_cases hlt:k<st.length
 rotate_left
 ·have hke:k=st.length:=by omega
  subst hke;have d0:decide ((st.length:Int)<((st.map Pl.c).length:Int))=false:=by simp
  rw[List.take_length];repeat' ((conv=>whnf);first|with_reducible apply aO|((with_reducible apply fk)<;>intro hc<;>try exact cu)|refine aP ?_|fail)
  all_goals exact aL
 have d0:decide ((k:Int)<((st.map Pl.c).length:Int))=true:=by simp only[jg,l9];omega
 have eW:IntKind.i64.wrap ((k:Int)+1)=((k+1:Nat):Int):=by rw[bI (by omega) (by omega)];omega
 have hr:=eD Pl.c st k hlt;have hq:=Ca c (([]:List Pl)) st k hlt;have hql:=Gh c (([]:List Pl)) (st.take k);have htl:(st.take k).length=k:=by rw[List.length_take];omega
 have hin:=qE (([]:List Pl)) st[k].node st[k].aM;rw[show ((([]:List Pl)).any fun y=>y==(⟨st[k].node,st[k].aM⟩:Pl))=(([]:List Pl)).any (· == st[k]) from rfl] at hin;have hkm:k<(st.map Pl.c).length:=by rw[List.length_map];exact hlt
 generalize (([]:List Pl)).any (· == st[k])=B at hq hin;cases B with
 | true=>
   simp only[↓reduceIte,List.append_nil] at hq;replace hq:=Hd.mk hq;repeat' ((conv=>whnf);first|with_reducible apply aO|((with_reducible apply fk)<;>intro hc<;>try exact cu)|((refine⟨_,hr,?_⟩))|(apply aX;refine⟨_,ai (hin) ?_,?_⟩;exact aZ)|(((with_reducible apply And.intro);focus (rw[Int.toNat_natCast];exact hkm)))|refine aP ?_|fail)
   refine⟨⟨k+1,hlt⟩,dec_lt hlt,aA ?_⟩;dsimp only
   rw[hq.out];repeat' first|apply And.intro|exact aL|fail
   all_goals try (conv=>whnf)
   all_goals exact eW
 | false=>
   simp only[Bool.false_eq_true,↓reduceIte] at hq;replace hq:=Hd.mk hq;repeat' ((conv=>whnf);first|with_reducible apply aO|((with_reducible apply fk)<;>intro hc<;>try exact cu)|((refine⟨_,hr,?_⟩))|(apply aX;refine⟨_,ai (hin) ?_,?_⟩;exact aZ)|(((with_reducible apply And.intro);focus (rw[Int.toNat_natCast];exact hkm)))|(((with_reducible apply And.intro);focus (simp only[jg,tF,uX];omega)))|refine aP ?_|fail)
   refine⟨⟨k+1,hlt⟩,dec_lt hlt,aA ?_⟩;dsimp only
   rw[hq.out,List.map_append];repeat' first|apply And.intro|exact aL|fail
   all_goals try (conv=>whnf)
   all_goals first
    |exact eW
    |(refine gU (bH _) ?_;(repeat' first|apply And.intro|exact aL|fail);(all_goals try (conv=>whnf)))
    |skip
theorem Ay (l:Lg)(f:Pl)(k:Nat):cO l f 0 k=cO l f (k:Int) 0:=by
 unfold cO;congr 1
 have e:(l.last-0).toNat-k=(l.last-(k:Int)).toNat-0:=by omega
 rw[e,List.range'_eq_map_range,List.range'_eq_map_range,List.map_map,List.map_map];refine List.map_congr_left fun i _=>?_
 simp only[Function.comp];omega
theorem O8 (l:Lg)(f:Pl)(n:Int)(hn:0≤n):(dQ l f 0).find? (fun x=>decide (x>n))=(dQ l f n).head? :=by
 cases hcl:gJ l with
 |false=>simp[dQ,hcl]
 | true=>
   have h0:∀b:Int,dQ l f b=cO l f b 0:=fun b=>by
    unfold dQ;rw[hcl,Bool.true_and];split
    ·rfl
    rename_i h;rw[decide_eq_true_eq] at h;exact (gW l f b 0 (by omega)).symm
   have hall:∀x∈dQ l f n,x>n:=fun x hx=>(jQ hx).1
   have hfind:∀(L:List Int),(∀x∈L,x>n)→L.find? (fun x=>decide (x>n))=L.head? :=fun L hL=>by
    cases L with
    |nil=>rfl
    |cons a r=>rw[List.find?_cons,show decide (a>n)=true from by simpa using hL a (by simp)];rfl
   rcases Jf l f n.toNat with h|h
   ·rw[h0 0,h,List.find?_append,Ay,Int.toNat_of_nonneg hn,←h0 n,hfind _ hall];rw[List.find?_eq_none.2]
    ·rfl
    intro x hx;rw[List.mem_filter,List.mem_map] at hx;obtain⟨⟨i,hi,rfl⟩,_⟩:=hx;rw[List.mem_range'_1] at hi;simp only[l9];omega
   have h1:dQ l f n=[]:=by rw[h0 n];exact gW l f n 0 (by omega)
   rw[h1,List.find?_eq_none.2]
   ·rfl
   intro x hx;have:=(jQ hx).2.1;simp only[l9];omega
theorem Gi:bE prog 60 f60:=eZ func60
theorem QW (c:Cp)(now:Int)(hr : -9223372036854775808≤c.l.closed∧c.l.closed≤9223372036854775807∧0≤c.l.last)(hf:fB c.l.au)(hn:gL c.n)(hw:∀n,(setOf c.l.au c.l.w n).length≤1000000) :
  dH prog 60 [.agg c.c,uu now] (.fF [.agg (y8 c now).1.c,BG (y8 c now).2]):=by
 refine PC.le (jN Gi fun hbd=>?_);have hh:=O7 c.l c.from_ hr hf;have hfd:=O8 c.l c.from_ c.n hn.1;have hmem:=fun x (hx:x∈dQ c.l c.from_ 0)=>jQ hx
 have CS:y8 c now=match (dQ c.l c.from_ c.n).head? with
  |some n=>iC { c with none:=[],body:=[],phase:=1,n:=n,born:=now } now
  |none=>({ c with none:=[],body:=[],phase:=3,n:=0 },[]):=by
  unfold y8;cases dQ c.l c.from_ c.n<;>rfl
 rw[←hfd] at CS;clear hfd;have hlen:(dQ c.l c.from_ 0).length≤1000000:=by
  unfold dQ;split
  ·rename_i h1;rw[Bool.and_eq_true] at h1;have h8:=(pV h1.1).1;unfold cO;refine Nat.le_trans (List.length_filter_le _ _) ?_;rw[List.length_map,List.length_range'];omega
  simp
 obtain⟨L,hL⟩:∃L,dQ c.l c.from_ 0=L:=⟨_,rfl⟩;rw[hL] at hh CS hmem hlen;clear hL hbd;refine dA Gi ?_;repeat' ((conv=>whnf);first|with_reducible apply aO|((with_reducible apply fk)<;>intro hc<;>try exact bQ)|(apply aX;refine⟨_,ai (hh) ?_,?_⟩;exact aZ)|refine aP ?_|fail)
 clear hh;refine⟨{k:Nat // k≤L.length∧∀j (hj:j<L.length),j<k→decide (L[j]>c.n)=false},fun⟨k,_⟩=>⟨[(1,.pv (uu now)),(2,.ptr 1002 0),(4,.ptr 1004 0),(6,.pv (xD L)),(7,.pv (ii k))],1000000000,[(1002,.var (({ c with none:=[],body:=[] }:Cp).c.map .pv)),(1004,.var Cp.z)]⟩,fun⟨k,_⟩=>L.length-k,⟨⟨0,Nat.zero_le _,fun j hj h=>absurd h (Nat.not_lt_zero _)⟩,aA ?_⟩,?_⟩
 ·all_goals exact aL
 rintro⟨k,hk,hno⟩
 dsimp only
 by_cases hlt:k<L.length
 rotate_left
 ·have hke:k=L.length:=by omega
  subst hke;have d0:decide ((L.length:Int)<((L.map Iq).length:Int))=false:=by simp
  have e:y8 c now=({ c with none:=[],body:=[],phase:=3,n:=0 },[]):=by
   rw[CS,List.find?_eq_none.2];intro x hx;obtain⟨j,hj,rfl⟩:=List.getElem_of_mem hx;rw[hno j hj hj];simp
  rw[e];clear hno CS e;repeat' ((conv=>whnf);first|with_reducible apply aO|((with_reducible apply fk)<;>intro hc<;>try exact cu)|refine aP ?_|fail)
  all_goals exact aL
 have d0:decide ((k:Int)<((L.map Iq).length:Int))=true:=by simp only[jg,l9];omega
 have eW:IntKind.i64.wrap ((k:Int)+1)=((k+1:Nat):Int):=by rw[bI (by omega) (by omega)];omega
 have hr2:=eD Iq L k hlt;have hkm:k<(L.map Iq).length:=by rw[List.length_map];exact hlt
 cases hg:decide (L[k]>c.n) with
 | false=>
   clear CS;repeat' ((conv=>whnf);first|with_reducible apply aO|((with_reducible apply fk)<;>intro hc<;>try exact cu)|((refine⟨_,hr2,?_⟩))|refine aP ?_|fail)
   refine⟨⟨k+1,hlt,eX hno fun _=>hg⟩,dec_lt hlt,aA ?_⟩;repeat' first|apply And.intro|exact aL|fail
   all_goals try (conv=>whnf)
   all_goals exact eW
 | true=>
   obtain⟨m1,m2,m3,_⟩:=hmem L[k] (List.getElem_mem hlt);have e:y8 c now=iC { c with none:=[],body:=[],phase:=1,n:=L[k],born:=now } now:=by
    rw[CS,show L.find? (fun x=>decide (x>c.n))=some L[k] from by
     rw[List.find?_eq_some_iff_getElem];refine⟨by simpa using hg,k,hlt,rfl,fun j hj=>?_⟩;have:=hno j (by omega) hj;rw[this];rfl]
   have fI:=zI { c with none:=[],body:=[],phase:=1,n:=L[k],born:=now } now hf ⟨by simp only;omega,by simp only;omega⟩ (hw _) (by simp);rw[e];clear CS e hno hmem;generalize iC { c with none:=[],body:=[],phase:=1,n:=L[k],born:=now } now=y at *;repeat' ((conv=>whnf);first|with_reducible apply aO|((with_reducible apply fk)<;>intro hc<;>try exact cu)|((refine⟨_,hr2,?_⟩))|(apply aX;refine⟨_,ai (fI) ?_,?_⟩;exact aZ)|refine aP ?_|fail)
   all_goals exact aL
theorem Jh:bE prog 22 f22:=eZ func22
theorem Cb (l:List Fr)(hl:l.length≤1000000)(hb:∀f∈l,f.ak.length≤1000000):gY prog 22 [.pv (gH l)] [] (.aG 1001 0) [(1001,.arr 48 0 2 (l.map Fr.c))]:=by
 refine jY Jh ?_;repeat' ((conv=>whnf);first|with_reducible apply aO|((with_reducible apply fk)<;>intro hc<;>try exact bQ)|refine aP ?_|fail)
 refine⟨{k:Nat // k≤l.length},fun⟨k,_⟩=>⟨[(0,.pv (gH l)),(3,.aG 1001 0),(4,.pv (ii k))],1000000000,[(1001,.arr 48 0 2 ((l.take k).map Fr.c))]⟩,fun⟨k,_⟩=>l.length-k,⟨⟨0,Nat.zero_le _⟩,aA ?_⟩,?_⟩
 ·all_goals exact aL
 rintro⟨k,hk⟩
 dsimp only
 by_cases hlt:k<l.length
 rotate_left
 ·have hke:k=l.length:=by omega
  subst hke;have d0:decide ((l.length:Int)<((l.map Fr.c).length:Int))=false:=by simp
  rw[List.take_length];repeat' ((conv=>whnf);first|with_reducible apply aO|((with_reducible apply fk)<;>intro hc<;>try exact bQ)|refine aP ?_|fail)
  refine⟨_,_,⟨rfl,rfl⟩,?_⟩;all_goals exact aL
 have d0:decide ((k:Int)<((l.map Fr.c).length:Int))=true:=by simp only[jg,l9];omega
 have eW:IntKind.i64.wrap ((k:Int)+1)=((k+1:Nat):Int):=by rw[bI (by omega) (by omega)];omega
 have hr:=eD Fr.c l k hlt;have hbk:=hb _ (List.getElem_mem hlt);have hts:=List.take_succ_eq_append_getElem hlt;obtain⟨f,hf⟩:∃f,l[k]=f:=⟨_,rfl⟩;rw[hf] at hr hbk hts;replace hts:=Hd.mk hts;clear hf hb;repeat' ((conv=>whnf);first|with_reducible apply aO|((with_reducible apply fk)<;>intro hc<;>try exact cu)|((refine⟨_,hr,?_⟩))|(((with_reducible apply And.intro);focus (simp only[jg,tF,uX,List.length_take];omega)))|refine aP ?_|fail)
 refine⟨⟨k+1,hlt⟩,dec_lt hlt,aA ?_⟩;dsimp only
 rw[hts.out,List.map_append];repeat' first|apply And.intro|exact aL|fail
 all_goals try (conv=>whnf)
 all_goals first
  |exact eW
  |(refine gU (bH _) ?_;(repeat' first|apply And.intro|exact aL|fail);(all_goals try (conv=>whnf)))
  |skip
structure wL (c:Cp):Prop where
 fl:c.l.au.length≤50
 fb:∀f∈c.l.au,f.ak.length≤50
 fr:fB c.l.au
 no:c.none.length≤300
 bo:c.body.length≤6000
 n:gL c.n
 cl : -9223372036854775808≤c.l.closed∧c.l.closed≤9223372036854775807∧0≤c.l.last
theorem Cc:bE prog 10 f10:=eZ func10
def fA (x:Cp)(fr no bo:AV):List AV:=[.pv (uu x.l.id),.pv (ii x.l.w),.pv (ii x.l.a),fr,.pv (ii x.l.closed),.pv (uu x.l.last),.pv (ii x.from_.node),.pv (uu x.from_.aM),.pv (ii x.to.node),.pv (uu x.to.aM),.pv (ii x.phase),.pv (uu x.n),no,bo,.pv (uu x.born),.pv (uu x.since)]
theorem LW (c:Cp)(h:wL c):gY prog 10 [.pv (.agg c.c)] [] (.agg (fA c (.aG 1001 0) (.aG 1002 0) (.aG 1003 0))) [(1001,.arr 48 0 2 (c.l.au.map Fr.c)),(1002,.arr 27 0 2 (c.none.map Pl.c)),(1003,.arr 5 0 1 (c.body.map aB))]:=by
 have ZU:=Cb c.l.au (by have:=h.fl;omega) (fun f hf=>by have:=h.fb f hf;omega);have h1:=h.no;have h2:=h.bo;clear h;refine jY Cc ?_;repeat' ((conv=>whnf);first|with_reducible apply aO|((with_reducible apply fk)<;>intro hc<;>try exact bQ)|rewrite[zvA]|rewrite[zvO]|(apply dV;refine⟨_,_,aW (ZU) ?_,?_⟩;exact aZ)|(((with_reducible apply And.intro);focus (simp only[jg,tF,uX];omega)))|refine aP ?_|fail)
 refine⟨_,_,⟨rfl,rfl⟩,?_⟩;all_goals exact aL
theorem LX (c:Cp)(h:wL c):gY prog 10 [.pv (.agg c.c)] [] (.agg (fA c (.pv (gH c.l.au)) (.aG 1002 0) (.pv (xC c.body)))) [(1002,.arr 27 0 2 (c.none.map Pl.c))]:=by
 refine Oj (LW c h) [1001,1003] ?_
 (conv=>whnf)
 refine⟨_,_,⟨rfl,rfl⟩,?_⟩;all_goals exact aL
theorem zG (c:Cp)(h:wL c):dH prog 10 [.agg c.c] (.agg c.c):=by
 have ZU:=Cb c.l.au (by have:=h.fl;omega) (fun f hf=>by have:=h.fb f hf;omega);have h1:=h.no;have h2:=h.bo;clear h;refine PC.le ?_;refine dA Cc ?_;repeat' ((conv=>whnf);first|with_reducible apply aO|((with_reducible apply fk)<;>intro hc<;>try exact bQ)|rewrite[zvA]|rewrite[zvO]|(apply dV;refine⟨_,_,aW (ZU) ?_,?_⟩;exact aZ)|(((with_reducible apply And.intro);focus (simp only[jg,tF,uX];omega)))|refine aP ?_|fail)
 all_goals exact aL
end Go.Proofs.YtfoiekbkkbnpkaaGreat.Tb
end
