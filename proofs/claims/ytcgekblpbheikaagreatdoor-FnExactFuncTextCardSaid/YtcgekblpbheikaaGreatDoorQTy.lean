/- What the abstract machine asks of the types and functions of this seat: closed facts, written by a program. No condition. -/
import Derived.Test.YtcgekblpbheikaaGreatDoorChecked
import Derived.KernelRfl
import Derived.Test.YtcgekblpbheikaaGreatDoorQE2
namespace Go.Proofs.YtcgekblpbheikaaGreatDoor
@[simp] theorem ti_1:tinfo Tryz.prog 1=some ⟨false,1,8,[.nilf],.fn⟩:=by kernel_rfl
@[simp] theorem ti_2:tinfo Tryz.prog 2=some ⟨false,1,8,[.int .i64 0],.int .i64⟩:=by kernel_rfl
@[simp] theorem ti_3:tinfo Tryz.prog 3=some ⟨false,1,8,[.int .i64 0],.int .i64⟩:=by kernel_rfl
@[simp] theorem ti_4:tinfo Tryz.prog 4=some ⟨false,1,1,[.bool false],.bool⟩:=by kernel_rfl
@[simp] theorem ti_5:tinfo Tryz.prog 5=some ⟨false,1,1,[.int .u8 0],.int .u8⟩:=by kernel_rfl
@[simp] theorem ti_9:tinfo Tryz.prog 9=some ⟨false,1,16,[.str ⟨#[]⟩],.str⟩:=by kernel_rfl
@[simp] theorem ti_12:tinfo Tryz.prog 12=some ⟨false,1,8,[.int .u64 0],.int .u64⟩:=by kernel_rfl
@[simp] theorem ti_20:tinfo Tryz.prog 20=some ⟨false,1,16,[.nili],.iface⟩:=by kernel_rfl
@[simp] theorem ti_21:tinfo Tryz.prog 21=some ⟨false,1,4,[.int .i32 0],.int .i32⟩:=by kernel_rfl
@[simp] theorem ti_22:tinfo Tryz.prog 22=some ⟨false,1,24,[.nilsl],.slice 135⟩:=by kernel_rfl
@[simp] theorem ti_23:tinfo Tryz.prog 23=some ⟨true,2,32,[.int .i64 0,.nilsl],.struct [(0,3,1),(1,22,1)]⟩:=by kernel_rfl
@[simp] theorem ti_24:tinfo Tryz.prog 24=some ⟨true,2,32,[.int .i64 0,.nilsl],.struct [(0,3,1),(1,22,1)]⟩:=by kernel_rfl
@[simp] theorem ti_25:tinfo Tryz.prog 25=some ⟨false,1,8,[.nilf],.fn⟩:=by kernel_rfl
@[simp] theorem ti_27:tinfo Tryz.prog 27=some ⟨false,1,8,[.nilf],.fn⟩:=by kernel_rfl
@[simp] theorem ti_28:tinfo Tryz.prog 28=some ⟨false,1,24,[.nilsl],.slice 115⟩:=by kernel_rfl
@[simp] theorem ti_29:tinfo Tryz.prog 29=some ⟨true,2,32,[.int .i64 0,.nilsl],.struct [(0,3,1),(1,28,1)]⟩:=by kernel_rfl
@[simp] theorem ti_30:tinfo Tryz.prog 30=some ⟨true,2,32,[.int .i64 0,.nilsl],.struct [(0,3,1),(1,28,1)]⟩:=by kernel_rfl
@[simp] theorem ti_31:tinfo Tryz.prog 31=some ⟨false,1,8,[.nilf],.fn⟩:=by kernel_rfl
@[simp] theorem ti_32:tinfo Tryz.prog 32=some ⟨false,1,8,[.nilf],.fn⟩:=by kernel_rfl
@[simp] theorem ti_33:tinfo Tryz.prog 33=some ⟨false,1,8,[.nilf],.fn⟩:=by kernel_rfl
@[simp] theorem ti_34:tinfo Tryz.prog 34=some ⟨false,1,24,[.nilsl],.slice 5⟩:=by kernel_rfl
@[simp] theorem ti_35:tinfo Tryz.prog 35=some ⟨false,1,8,[.nilf],.fn⟩:=by kernel_rfl
@[simp] theorem ti_36:tinfo Tryz.prog 36=some ⟨false,1,24,[.nilsl],.slice 159⟩:=by kernel_rfl
@[simp] theorem ti_37:tinfo Tryz.prog 37=some ⟨true,2,48,[.nilsl,.nilsl],.struct [(0,36,1),(1,36,1)]⟩:=by kernel_rfl
@[simp] theorem ti_38:tinfo Tryz.prog 38=some ⟨true,2,48,[.nilsl,.nilsl],.struct [(0,36,1),(1,36,1)]⟩:=by kernel_rfl
@[simp] theorem ti_39:tinfo Tryz.prog 39=some ⟨false,1,8,[.nilf],.fn⟩:=by kernel_rfl
@[simp] theorem ti_40:tinfo Tryz.prog 40=some ⟨false,1,8,[.nilf],.fn⟩:=by kernel_rfl
@[simp] theorem ti_42:tinfo Tryz.prog 42=some ⟨false,1,8,[.nilf],.fn⟩:=by kernel_rfl
@[simp] theorem ti_43:tinfo Tryz.prog 43=some ⟨false,1,8,[.nilf],.fn⟩:=by kernel_rfl
@[simp] theorem ti_44:tinfo Tryz.prog 44=some ⟨false,1,8,[.nilf],.fn⟩:=by kernel_rfl
@[simp] theorem ti_46:tinfo Tryz.prog 46=some ⟨false,1,8,[.nilf],.fn⟩:=by kernel_rfl
@[simp] theorem ti_47:tinfo Tryz.prog 47=some ⟨false,1,8,[.nilf],.fn⟩:=by kernel_rfl
@[simp] theorem ti_48:tinfo Tryz.prog 48=some ⟨false,1,8,[.nilf],.fn⟩:=by kernel_rfl
@[simp] theorem ti_49:tinfo Tryz.prog 49=some ⟨false,1,24,[.nilsl],.slice 2⟩:=by kernel_rfl
@[simp] theorem ti_50:tinfo Tryz.prog 50=some ⟨false,1,8,[.nilf],.fn⟩:=by kernel_rfl
@[simp] theorem ti_51:tinfo Tryz.prog 51=some ⟨false,1,8,[.nilf],.fn⟩:=by kernel_rfl
@[simp] theorem ti_52:tinfo Tryz.prog 52=some ⟨false,1,8,[.nilf],.fn⟩:=by kernel_rfl
@[simp] theorem ti_53:tinfo Tryz.prog 53=some ⟨false,1,8,[.nilf],.fn⟩:=by kernel_rfl
@[simp] theorem ti_54:tinfo Tryz.prog 54=some ⟨false,1,8,[.nilf],.fn⟩:=by kernel_rfl
@[simp] theorem ti_56:tinfo Tryz.prog 56=some ⟨false,1,8,[.nilf],.fn⟩:=by kernel_rfl
@[simp] theorem ti_57:tinfo Tryz.prog 57=some ⟨false,1,8,[.nilf],.fn⟩:=by kernel_rfl
@[simp] theorem ti_58:tinfo Tryz.prog 58=some ⟨false,1,8,[.nilf],.fn⟩:=by kernel_rfl
@[simp] theorem ti_60:tinfo Tryz.prog 60=some ⟨false,1,8,[.nilf],.fn⟩:=by kernel_rfl
@[simp] theorem ti_62:tinfo Tryz.prog 62=some ⟨false,1,8,[.nilf],.fn⟩:=by kernel_rfl
@[simp] theorem ti_63:tinfo Tryz.prog 63=some ⟨false,1,8,[.nilf],.fn⟩:=by kernel_rfl
@[simp] theorem ti_64:tinfo Tryz.prog 64=some ⟨false,1,8,[.nilf],.fn⟩:=by kernel_rfl
@[simp] theorem ti_65:tinfo Tryz.prog 65=some ⟨false,1,8,[.nilf],.fn⟩:=by kernel_rfl
@[simp] theorem ti_66:tinfo Tryz.prog 66=some ⟨false,1,8,[.nilf],.fn⟩:=by kernel_rfl
@[simp] theorem ti_67:tinfo Tryz.prog 67=some ⟨false,1,8,[.nilf],.fn⟩:=by kernel_rfl
@[simp] theorem ti_68:tinfo Tryz.prog 68=some ⟨false,1,8,[.nilf],.fn⟩:=by kernel_rfl
@[simp] theorem ti_69:tinfo Tryz.prog 69=some ⟨false,1,8,[.nilp],.ptr⟩:=by kernel_rfl
@[simp] theorem ti_70:tinfo Tryz.prog 70=some ⟨false,1,8,[.nilf],.fn⟩:=by kernel_rfl
@[simp] theorem ti_71:tinfo Tryz.prog 71=some ⟨false,1,8,[.nilf],.fn⟩:=by kernel_rfl
@[simp] theorem ti_72:tinfo Tryz.prog 72=some ⟨false,1,8,[.nilf],.fn⟩:=by kernel_rfl
@[simp] theorem ti_74:tinfo Tryz.prog 74=some ⟨false,1,8,[.nilf],.fn⟩:=by kernel_rfl
@[simp] theorem ti_76:tinfo Tryz.prog 76=some ⟨false,1,8,[.nilf],.fn⟩:=by kernel_rfl
@[simp] theorem ti_77:tinfo Tryz.prog 77=some ⟨false,1,8,[.nilf],.fn⟩:=by kernel_rfl
@[simp] theorem ti_78:tinfo Tryz.prog 78=some ⟨false,1,8,[.nilp],.ptr⟩:=by kernel_rfl
@[simp] theorem ti_79:tinfo Tryz.prog 79=some ⟨false,1,8,[.int .u64 0],.int .u64⟩:=by kernel_rfl
@[simp] theorem ti_80:tinfo Tryz.prog 80=some ⟨true,3,40,[.nilsl,.int .i64 0,.int .u64 0],.struct [(0,34,1),(1,3,1),(2,79,1)]⟩:=by kernel_rfl
@[simp] theorem ti_81:tinfo Tryz.prog 81=some ⟨true,3,40,[.nilsl,.int .i64 0,.int .u64 0],.struct [(0,34,1),(1,3,1),(2,79,1)]⟩:=by kernel_rfl
@[simp] theorem ti_82:tinfo Tryz.prog 82=some ⟨false,1,8,[.nilf],.fn⟩:=by kernel_rfl
@[simp] theorem ti_83:tinfo Tryz.prog 83=some ⟨false,1,8,[.nilf],.fn⟩:=by kernel_rfl
@[simp] theorem ti_84:tinfo Tryz.prog 84=some ⟨false,1,8,[.nilf],.fn⟩:=by kernel_rfl
@[simp] theorem ti_85:tinfo Tryz.prog 85=some ⟨false,1,24,[.nilsl],.slice 9⟩:=by kernel_rfl
@[simp] theorem ti_86:tinfo Tryz.prog 86=some ⟨false,1,8,[.nilp],.ptr⟩:=by kernel_rfl
@[simp] theorem ti_87:tinfo Tryz.prog 87=some ⟨true,4,56,[.int .i64 0,.nilsl,.str ⟨#[]⟩,.int .i64 0],.struct [(0,30,2),(2,9,1),(3,3,1)]⟩:=by kernel_rfl
@[simp] theorem ti_88:tinfo Tryz.prog 88=some ⟨true,4,56,[.int .i64 0,.nilsl,.str ⟨#[]⟩,.int .i64 0],.struct [(0,30,2),(2,9,1),(3,3,1)]⟩:=by kernel_rfl
@[simp] theorem ti_89:tinfo Tryz.prog 89=some ⟨false,1,8,[.nilf],.fn⟩:=by kernel_rfl
@[simp] theorem ti_91:tinfo Tryz.prog 91=some ⟨false,1,8,[.nilf],.fn⟩:=by kernel_rfl
@[simp] theorem ti_92:tinfo Tryz.prog 92=some ⟨false,1,8,[.nilf],.fn⟩:=by kernel_rfl
@[simp] theorem ti_93:tinfo Tryz.prog 93=some ⟨false,1,8,[.nilf],.fn⟩:=by kernel_rfl
@[simp] theorem ti_94:tinfo Tryz.prog 94=some ⟨false,1,8,[.nilf],.fn⟩:=by kernel_rfl
@[simp] theorem ti_95:tinfo Tryz.prog 95=some ⟨false,1,8,[.nilf],.fn⟩:=by kernel_rfl
@[simp] theorem ti_96:tinfo Tryz.prog 96=some ⟨false,1,8,[.nilf],.fn⟩:=by kernel_rfl
@[simp] theorem ti_97:tinfo Tryz.prog 97=some ⟨true,4,48,[.int .i64 0,.int .i64 0,.nilsl,.int .i64 0],.struct [(0,3,1),(1,2,1),(2,49,1),(3,3,1)]⟩:=by kernel_rfl
@[simp] theorem ti_98:tinfo Tryz.prog 98=some ⟨true,4,48,[.int .i64 0,.int .i64 0,.nilsl,.int .i64 0],.struct [(0,3,1),(1,2,1),(2,49,1),(3,3,1)]⟩:=by kernel_rfl
@[simp] theorem ti_100:tinfo Tryz.prog 100=some ⟨false,1,8,[.nilf],.fn⟩:=by kernel_rfl
@[simp] theorem ti_101:tinfo Tryz.prog 101=some ⟨false,1,8,[.nilf],.fn⟩:=by kernel_rfl
@[simp] theorem ti_102:tinfo Tryz.prog 102=some ⟨false,1,8,[.nilf],.fn⟩:=by kernel_rfl
@[simp] theorem ti_103:tinfo Tryz.prog 103=some ⟨false,1,8,[.nilf],.fn⟩:=by kernel_rfl
@[simp] theorem ti_104:tinfo Tryz.prog 104=some ⟨false,1,8,[.nilf],.fn⟩:=by kernel_rfl
@[simp] theorem ti_105:tinfo Tryz.prog 105=some ⟨false,1,8,[.nilp],.ptr⟩:=by kernel_rfl
@[simp] theorem ti_106:tinfo Tryz.prog 106=some ⟨false,1,8,[.nilf],.fn⟩:=by kernel_rfl
@[simp] theorem ti_107:tinfo Tryz.prog 107=some ⟨true,4,32,[.int .i64 0,.int .i64 0,.int .i64 0,.int .i64 0],.struct [(0,3,1),(1,3,1),(2,3,1),(3,3,1)]⟩:=by kernel_rfl
@[simp] theorem ti_108:tinfo Tryz.prog 108=some ⟨true,4,32,[.int .i64 0,.int .i64 0,.int .i64 0,.int .i64 0],.struct [(0,3,1),(1,3,1),(2,3,1),(3,3,1)]⟩:=by kernel_rfl
@[simp] theorem ti_109:tinfo Tryz.prog 109=some ⟨false,1,8,[.nilp],.ptr⟩:=by kernel_rfl
@[simp] theorem ti_110:tinfo Tryz.prog 110=some ⟨false,1,8,[.nilf],.fn⟩:=by kernel_rfl
@[simp] theorem ti_111:tinfo Tryz.prog 111=some ⟨false,1,8,[.nilf],.fn⟩:=by kernel_rfl
@[simp] theorem ti_112:tinfo Tryz.prog 112=some ⟨false,1,24,[.nilsl],.slice 119⟩:=by kernel_rfl
@[simp] theorem ti_113:tinfo Tryz.prog 113=some ⟨false,1,24,[.nilsl],.slice 121⟩:=by kernel_rfl
@[simp] theorem ti_114:tinfo Tryz.prog 114=some ⟨true,5,72,[.int .i64 0,.nilsl,.int .i64 0,.int .i64 0,.nilsl],.struct [(0,3,1),(1,112,1),(2,3,1),(3,3,1),(4,113,1)]⟩:=by kernel_rfl
@[simp] theorem ti_115:tinfo Tryz.prog 115=some ⟨true,5,72,[.int .i64 0,.nilsl,.int .i64 0,.int .i64 0,.nilsl],.struct [(0,3,1),(1,112,1),(2,3,1),(3,3,1),(4,113,1)]⟩:=by kernel_rfl
@[simp] theorem ti_116:tinfo Tryz.prog 116=some ⟨false,1,8,[.nilf],.fn⟩:=by kernel_rfl
@[simp] theorem ti_117:tinfo Tryz.prog 117=some ⟨false,1,24,[.nilsl],.slice 3⟩:=by kernel_rfl
@[simp] theorem ti_118:tinfo Tryz.prog 118=some ⟨true,3,40,[.int .i64 0,.int .i64 0,.nilsl],.struct [(0,3,1),(1,2,1),(2,117,1)]⟩:=by kernel_rfl
@[simp] theorem ti_119:tinfo Tryz.prog 119=some ⟨true,3,40,[.int .i64 0,.int .i64 0,.nilsl],.struct [(0,3,1),(1,2,1),(2,117,1)]⟩:=by kernel_rfl
@[simp] theorem ti_120:tinfo Tryz.prog 120=some ⟨true,2,32,[.int .i64 0,.nilsl],.struct [(0,3,1),(1,117,1)]⟩:=by kernel_rfl
@[simp] theorem ti_121:tinfo Tryz.prog 121=some ⟨true,2,32,[.int .i64 0,.nilsl],.struct [(0,3,1),(1,117,1)]⟩:=by kernel_rfl
@[simp] theorem ti_122:tinfo Tryz.prog 122=some ⟨false,1,8,[.nilf],.fn⟩:=by kernel_rfl
@[simp] theorem ti_123:tinfo Tryz.prog 123=some ⟨false,1,8,[.nilf],.fn⟩:=by kernel_rfl
@[simp] theorem ti_124:tinfo Tryz.prog 124=some ⟨false,1,8,[.nilf],.fn⟩:=by kernel_rfl
@[simp] theorem ti_125:tinfo Tryz.prog 125=some ⟨false,1,8,[.nilf],.fn⟩:=by kernel_rfl
@[simp] theorem ti_126:tinfo Tryz.prog 126=some ⟨false,1,8,[.nilf],.fn⟩:=by kernel_rfl
@[simp] theorem ti_127:tinfo Tryz.prog 127=some ⟨true,5,88,[.int .i64 0,.nilsl,.nilsl,.nilsl,.int .i64 0],.struct [(0,30,2),(2,117,1),(3,117,1),(4,3,1)]⟩:=by kernel_rfl
@[simp] theorem ti_128:tinfo Tryz.prog 128=some ⟨true,5,88,[.int .i64 0,.nilsl,.nilsl,.nilsl,.int .i64 0],.struct [(0,30,2),(2,117,1),(3,117,1),(4,3,1)]⟩:=by kernel_rfl
@[simp] theorem ti_129:tinfo Tryz.prog 129=some ⟨false,1,8,[.nilf],.fn⟩:=by kernel_rfl
@[simp] theorem ti_130:tinfo Tryz.prog 130=some ⟨false,1,8,[.nilf],.fn⟩:=by kernel_rfl
@[simp] theorem ti_131:tinfo Tryz.prog 131=some ⟨false,1,8,[.nilf],.fn⟩:=by kernel_rfl
@[simp] theorem ti_132:tinfo Tryz.prog 132=some ⟨false,1,24,[.nilsl],.slice 285⟩:=by kernel_rfl
@[simp] theorem ti_133:tinfo Tryz.prog 133=some ⟨false,1,24,[.nilsl],.slice 287⟩:=by kernel_rfl
@[simp] theorem ti_134:tinfo Tryz.prog 134=some ⟨true,5,72,[.int .i64 0,.nilsl,.int .i64 0,.int .i64 0,.nilsl],.struct [(0,3,1),(1,132,1),(2,3,1),(3,3,1),(4,133,1)]⟩:=by kernel_rfl
@[simp] theorem ti_135:tinfo Tryz.prog 135=some ⟨true,5,72,[.int .i64 0,.nilsl,.int .i64 0,.int .i64 0,.nilsl],.struct [(0,3,1),(1,132,1),(2,3,1),(3,3,1),(4,133,1)]⟩:=by kernel_rfl
@[simp] theorem ti_136:tinfo Tryz.prog 136=some ⟨false,1,8,[.nilf],.fn⟩:=by kernel_rfl
@[simp] theorem ti_137:tinfo Tryz.prog 137=some ⟨false,1,8,[.nilf],.fn⟩:=by kernel_rfl
@[simp] theorem ti_138:tinfo Tryz.prog 138=some ⟨false,1,8,[.nilf],.fn⟩:=by kernel_rfl
@[simp] theorem ti_139:tinfo Tryz.prog 139=some ⟨false,1,8,[.nilf],.fn⟩:=by kernel_rfl
@[simp] theorem ti_140:tinfo Tryz.prog 140=some ⟨false,1,8,[.nilf],.fn⟩:=by kernel_rfl
@[simp] theorem ti_141:tinfo Tryz.prog 141=some ⟨false,1,8,[.nilp],.ptr⟩:=by kernel_rfl
@[simp] theorem ti_142:tinfo Tryz.prog 142=some ⟨true,2,32,[.nilp,.nilsl],.struct [(0,141,1),(1,34,1)]⟩:=by kernel_rfl
@[simp] theorem ti_143:tinfo Tryz.prog 143=some ⟨true,2,32,[.nilp,.nilsl],.struct [(0,141,1),(1,34,1)]⟩:=by kernel_rfl
@[simp] theorem ti_144:tinfo Tryz.prog 144=some ⟨false,1,16,[.nili],.iface⟩:=by kernel_rfl
@[simp] theorem ti_145:tinfo Tryz.prog 145=some ⟨false,1,16,[.nili],.iface⟩:=by kernel_rfl
@[simp] theorem ti_147:tinfo Tryz.prog 147=some ⟨false,1,8,[.nilf],.fn⟩:=by kernel_rfl
@[simp] theorem ti_148:tinfo Tryz.prog 148=some ⟨false,1,8,[.nilf],.fn⟩:=by kernel_rfl
@[simp] theorem ti_149:tinfo Tryz.prog 149=some ⟨false,1,8,[.nilf],.fn⟩:=by kernel_rfl
@[simp] theorem ti_150:tinfo Tryz.prog 150=some ⟨false,1,8,[.nilf],.fn⟩:=by kernel_rfl
@[simp] theorem ti_151:tinfo Tryz.prog 151=some ⟨false,1,8,[.nilf],.fn⟩:=by kernel_rfl
@[simp] theorem ti_152:tinfo Tryz.prog 152=some ⟨false,1,8,[.nilf],.fn⟩:=by kernel_rfl
@[simp] theorem ti_153:tinfo Tryz.prog 153=some ⟨false,1,8,[.nilf],.fn⟩:=by kernel_rfl
@[simp] theorem ti_154:tinfo Tryz.prog 154=some ⟨false,1,24,[.nilsl],.slice 69⟩:=by kernel_rfl
@[simp] theorem ti_155:tinfo Tryz.prog 155=some ⟨false,1,8,[.nilf],.fn⟩:=by kernel_rfl
@[simp] theorem ti_156:tinfo Tryz.prog 156=some ⟨true,3,40,[.int .i64 0,.int .i64 0,.nilsl],.struct [(0,3,1),(1,2,1),(2,154,1)]⟩:=by kernel_rfl
@[simp] theorem ti_157:tinfo Tryz.prog 157=some ⟨true,3,40,[.int .i64 0,.int .i64 0,.nilsl],.struct [(0,3,1),(1,2,1),(2,154,1)]⟩:=by kernel_rfl
@[simp] theorem ti_158:tinfo Tryz.prog 158=some ⟨true,2,16,[.int .i64 0,.int .i64 0],.struct [(0,3,1),(1,2,1)]⟩:=by kernel_rfl
@[simp] theorem ti_159:tinfo Tryz.prog 159=some ⟨true,2,16,[.int .i64 0,.int .i64 0],.struct [(0,3,1),(1,2,1)]⟩:=by kernel_rfl
@[simp] theorem ti_160:tinfo Tryz.prog 160=some ⟨false,1,8,[.nilf],.fn⟩:=by kernel_rfl
@[simp] theorem ti_161:tinfo Tryz.prog 161=some ⟨false,1,8,[.nilf],.fn⟩:=by kernel_rfl
@[simp] theorem ti_162:tinfo Tryz.prog 162=some ⟨false,1,8,[.nilf],.fn⟩:=by kernel_rfl
@[simp] theorem ti_163:tinfo Tryz.prog 163=some ⟨false,1,24,[.nilsl],.slice 236⟩:=by kernel_rfl
@[simp] theorem ti_165:tinfo Tryz.prog 165=some ⟨false,1,8,[.nilf],.fn⟩:=by kernel_rfl
@[simp] theorem ti_167:tinfo Tryz.prog 167=some ⟨false,1,8,[.nilf],.fn⟩:=by kernel_rfl
@[simp] theorem ti_168:tinfo Tryz.prog 168=some ⟨false,1,8,[.nilf],.fn⟩:=by kernel_rfl
@[simp] theorem ti_169:tinfo Tryz.prog 169=some ⟨false,1,8,[.nilf],.fn⟩:=by kernel_rfl
@[simp] theorem ti_170:tinfo Tryz.prog 170=some ⟨false,1,8,[.nilf],.fn⟩:=by kernel_rfl
@[simp] theorem ti_171:tinfo Tryz.prog 171=some ⟨false,1,8,[.nilf],.fn⟩:=by kernel_rfl
@[simp] theorem ti_172:tinfo Tryz.prog 172=some ⟨false,1,8,[.nilf],.fn⟩:=by kernel_rfl
@[simp] theorem ti_173:tinfo Tryz.prog 173=some ⟨false,1,8,[.nilf],.fn⟩:=by kernel_rfl
@[simp] theorem ti_174:tinfo Tryz.prog 174=some ⟨false,1,24,[.nilsl],.slice 117⟩:=by kernel_rfl
@[simp] theorem ti_175:tinfo Tryz.prog 175=some ⟨false,1,8,[.nilf],.fn⟩:=by kernel_rfl
@[simp] theorem ti_176:tinfo Tryz.prog 176=some ⟨false,1,8,[.nilf],.fn⟩:=by kernel_rfl
@[simp] theorem ti_177:tinfo Tryz.prog 177=some ⟨false,1,8,[.nilf],.fn⟩:=by kernel_rfl
@[simp] theorem ti_178:tinfo Tryz.prog 178=some ⟨false,1,8,[.nilf],.fn⟩:=by kernel_rfl
@[simp] theorem ti_179:tinfo Tryz.prog 179=some ⟨false,1,8,[.nilf],.fn⟩:=by kernel_rfl
@[simp] theorem ti_180:tinfo Tryz.prog 180=some ⟨false,1,8,[.nilf],.fn⟩:=by kernel_rfl
@[simp] theorem ti_181:tinfo Tryz.prog 181=some ⟨false,1,8,[.nilf],.fn⟩:=by kernel_rfl
@[simp] theorem ti_182:tinfo Tryz.prog 182=some ⟨true,3,40,[.int .i64 0,.nilsl,.int .i64 0],.struct [(0,30,2),(2,3,1)]⟩:=by kernel_rfl
@[simp] theorem ti_183:tinfo Tryz.prog 183=some ⟨true,3,40,[.int .i64 0,.nilsl,.int .i64 0],.struct [(0,30,2),(2,3,1)]⟩:=by kernel_rfl
@[simp] theorem ti_184:tinfo Tryz.prog 184=some ⟨false,1,8,[.nilf],.fn⟩:=by kernel_rfl
@[simp] theorem ti_185:tinfo Tryz.prog 185=some ⟨false,1,8,[.nilf],.fn⟩:=by kernel_rfl
@[simp] theorem ti_186:tinfo Tryz.prog 186=some ⟨false,1,8,[.nilf],.fn⟩:=by kernel_rfl
@[simp] theorem ti_187:tinfo Tryz.prog 187=some ⟨false,1,8,[.nilf],.fn⟩:=by kernel_rfl
@[simp] theorem ti_188:tinfo Tryz.prog 188=some ⟨false,1,8,[.nilf],.fn⟩:=by kernel_rfl
@[simp] theorem ti_189:tinfo Tryz.prog 189=some ⟨true,6,80,[.nilp,.nilsl,.int .i64 0,.int .i64 0,.nilsl,.int .i64 0],.struct [(0,105,1),(1,49,1),(2,98,4)]⟩:=by kernel_rfl
@[simp] theorem ti_190:tinfo Tryz.prog 190=some ⟨true,6,80,[.nilp,.nilsl,.int .i64 0,.int .i64 0,.nilsl,.int .i64 0],.struct [(0,105,1),(1,49,1),(2,98,4)]⟩:=by kernel_rfl
@[simp] theorem ti_191:tinfo Tryz.prog 191=some ⟨false,1,8,[.nilf],.fn⟩:=by kernel_rfl
@[simp] theorem ti_192:tinfo Tryz.prog 192=some ⟨false,1,8,[.nilf],.fn⟩:=by kernel_rfl
@[simp] theorem ti_194:tinfo Tryz.prog 194=some ⟨false,1,8,[.nilf],.fn⟩:=by kernel_rfl
@[simp] theorem ti_195:tinfo Tryz.prog 195=some ⟨false,1,8,[.nilf],.fn⟩:=by kernel_rfl
@[simp] theorem ti_196:tinfo Tryz.prog 196=some ⟨false,1,8,[.nilf],.fn⟩:=by kernel_rfl
@[simp] theorem ti_197:tinfo Tryz.prog 197=some ⟨false,1,8,[.nilf],.fn⟩:=by kernel_rfl
@[simp] theorem ti_198:tinfo Tryz.prog 198=some ⟨false,1,24,[.nilsl],.slice 4⟩:=by kernel_rfl
@[simp] theorem ti_199:tinfo Tryz.prog 199=some ⟨false,1,8,[.nilf],.fn⟩:=by kernel_rfl
@[simp] theorem ti_200:tinfo Tryz.prog 200=some ⟨false,1,24,[.nilsl],.slice 198⟩:=by kernel_rfl
@[simp] theorem ti_201:tinfo Tryz.prog 201=some ⟨false,1,8,[.nilf],.fn⟩:=by kernel_rfl
@[simp] theorem ti_202:tinfo Tryz.prog 202=some ⟨true,3,56,[.nilp,.nilsl,.nilsl],.struct [(0,105,1),(1,198,1),(2,200,1)]⟩:=by kernel_rfl
@[simp] theorem ti_203:tinfo Tryz.prog 203=some ⟨true,3,56,[.nilp,.nilsl,.nilsl],.struct [(0,105,1),(1,198,1),(2,200,1)]⟩:=by kernel_rfl
@[simp] theorem ti_204:tinfo Tryz.prog 204=some ⟨false,1,8,[.nilf],.fn⟩:=by kernel_rfl
@[simp] theorem ti_205:tinfo Tryz.prog 205=some ⟨false,1,8,[.nilp],.ptr⟩:=by kernel_rfl
@[simp] theorem ti_206:tinfo Tryz.prog 206=some ⟨false,1,8,[.nilf],.fn⟩:=by kernel_rfl
@[simp] theorem ti_207:tinfo Tryz.prog 207=some ⟨false,1,8,[.nilf],.fn⟩:=by kernel_rfl
@[simp] theorem ti_208:tinfo Tryz.prog 208=some ⟨false,1,8,[.nilf],.fn⟩:=by kernel_rfl
@[simp] theorem ti_209:tinfo Tryz.prog 209=some ⟨false,1,8,[.nilp],.ptr⟩:=by kernel_rfl
@[simp] theorem ti_210:tinfo Tryz.prog 210=some ⟨false,1,8,[.nilf],.fn⟩:=by kernel_rfl
@[simp] theorem ti_211:tinfo Tryz.prog 211=some ⟨false,1,8,[.nilf],.fn⟩:=by kernel_rfl
@[simp] theorem ti_212:tinfo Tryz.prog 212=some ⟨false,1,8,[.nilf],.fn⟩:=by kernel_rfl
@[simp] theorem ti_213:tinfo Tryz.prog 213=some ⟨false,1,8,[.nilf],.fn⟩:=by kernel_rfl
@[simp] theorem ti_214:tinfo Tryz.prog 214=some ⟨false,1,8,[.nilf],.fn⟩:=by kernel_rfl
@[simp] theorem ti_215:tinfo Tryz.prog 215=some ⟨false,1,8,[.nilf],.fn⟩:=by kernel_rfl
@[simp] theorem ti_216:tinfo Tryz.prog 216=some ⟨false,1,8,[.nilp],.ptr⟩:=by kernel_rfl
@[simp] theorem ti_217:tinfo Tryz.prog 217=some ⟨false,1,8,[.nilf],.fn⟩:=by kernel_rfl
@[simp] theorem ti_218:tinfo Tryz.prog 218=some ⟨false,1,8,[.nilf],.fn⟩:=by kernel_rfl
@[simp] theorem ti_219:tinfo Tryz.prog 219=some ⟨false,1,8,[.nilf],.fn⟩:=by kernel_rfl
@[simp] theorem ti_220:tinfo Tryz.prog 220=some ⟨false,1,8,[.nilf],.fn⟩:=by kernel_rfl
@[simp] theorem ti_221:tinfo Tryz.prog 221=some ⟨false,1,8,[.nilf],.fn⟩:=by kernel_rfl
@[simp] theorem ti_222:tinfo Tryz.prog 222=some ⟨false,1,8,[.nilf],.fn⟩:=by kernel_rfl
@[simp] theorem ti_223:tinfo Tryz.prog 223=some ⟨false,1,8,[.nilf],.fn⟩:=by kernel_rfl
@[simp] theorem ti_224:tinfo Tryz.prog 224=some ⟨false,1,8,[.nilf],.fn⟩:=by kernel_rfl
@[simp] theorem ti_225:tinfo Tryz.prog 225=some ⟨true,3,32,[.str ⟨#[]⟩,.int .i64 0,.bool false],.struct [(0,9,1),(1,3,1),(2,4,1)]⟩:=by kernel_rfl
@[simp] theorem ti_226:tinfo Tryz.prog 226=some ⟨true,3,32,[.str ⟨#[]⟩,.int .i64 0,.bool false],.struct [(0,9,1),(1,3,1),(2,4,1)]⟩:=by kernel_rfl
@[simp] theorem ti_227:tinfo Tryz.prog 227=some ⟨false,1,8,[.nilf],.fn⟩:=by kernel_rfl
@[simp] theorem ti_228:tinfo Tryz.prog 228=some ⟨false,1,8,[.nilf],.fn⟩:=by kernel_rfl
@[simp] theorem ti_229:tinfo Tryz.prog 229=some ⟨false,1,8,[.nilf],.fn⟩:=by kernel_rfl
@[simp] theorem ti_230:tinfo Tryz.prog 230=some ⟨false,1,8,[.nilf],.fn⟩:=by kernel_rfl
@[simp] theorem ti_231:tinfo Tryz.prog 231=some ⟨false,1,8,[.nilf],.fn⟩:=by kernel_rfl
@[simp] theorem ti_232:tinfo Tryz.prog 232=some ⟨false,1,8,[.nilf],.fn⟩:=by kernel_rfl
@[simp] theorem ti_233:tinfo Tryz.prog 233=some ⟨false,1,8,[.nilf],.fn⟩:=by kernel_rfl
@[simp] theorem ti_234:tinfo Tryz.prog 234=some ⟨false,1,8,[.nilf],.fn⟩:=by kernel_rfl
@[simp] theorem ti_235:tinfo Tryz.prog 235=some ⟨true,2,32,[.nilsl,.int .i64 0],.struct [(0,117,1),(1,2,1)]⟩:=by kernel_rfl
@[simp] theorem ti_236:tinfo Tryz.prog 236=some ⟨true,2,32,[.nilsl,.int .i64 0],.struct [(0,117,1),(1,2,1)]⟩:=by kernel_rfl
@[simp] theorem ti_237:tinfo Tryz.prog 237=some ⟨false,1,8,[.nilf],.fn⟩:=by kernel_rfl
@[simp] theorem ti_238:tinfo Tryz.prog 238=some ⟨false,1,8,[.int .u64 0],.int .u64⟩:=by kernel_rfl
@[simp] theorem ti_239:tinfo Tryz.prog 239=some ⟨false,1,8,[.nilp],.ptr⟩:=by kernel_rfl
@[simp] theorem ti_240:tinfo Tryz.prog 240=some ⟨true,3,48,[.str ⟨#[]⟩,.int .i64 0,.nilsl],.struct [(0,9,1),(1,3,1),(2,36,1)]⟩:=by kernel_rfl
@[simp] theorem ti_241:tinfo Tryz.prog 241=some ⟨true,3,48,[.str ⟨#[]⟩,.int .i64 0,.nilsl],.struct [(0,9,1),(1,3,1),(2,36,1)]⟩:=by kernel_rfl
@[simp] theorem ti_243:tinfo Tryz.prog 243=some ⟨false,1,8,[.nilf],.fn⟩:=by kernel_rfl
@[simp] theorem ti_245:tinfo Tryz.prog 245=some ⟨false,1,8,[.nilf],.fn⟩:=by kernel_rfl
@[simp] theorem ti_247:tinfo Tryz.prog 247=some ⟨false,1,8,[.nilf],.fn⟩:=by kernel_rfl
@[simp] theorem ti_248:tinfo Tryz.prog 248=some ⟨false,1,8,[.nilf],.fn⟩:=by kernel_rfl
@[simp] theorem ti_249:tinfo Tryz.prog 249=some ⟨false,1,8,[.nilf],.fn⟩:=by kernel_rfl
@[simp] theorem ti_250:tinfo Tryz.prog 250=some ⟨false,1,8,[.nilf],.fn⟩:=by kernel_rfl
@[simp] theorem ti_251:tinfo Tryz.prog 251=some ⟨false,1,8,[.nilf],.fn⟩:=by kernel_rfl
@[simp] theorem ti_252:tinfo Tryz.prog 252=some ⟨false,1,8,[.nilf],.fn⟩:=by kernel_rfl
@[simp] theorem ti_253:tinfo Tryz.prog 253=some ⟨false,1,8,[.nilp],.ptr⟩:=by kernel_rfl
@[simp] theorem ti_254:tinfo Tryz.prog 254=some ⟨false,1,8,[.nilf],.fn⟩:=by kernel_rfl
@[simp] theorem ti_255:tinfo Tryz.prog 255=some ⟨false,1,8,[.nilf],.fn⟩:=by kernel_rfl
@[simp] theorem ti_256:tinfo Tryz.prog 256=some ⟨false,1,8,[.nilf],.fn⟩:=by kernel_rfl
@[simp] theorem ti_257:tinfo Tryz.prog 257=some ⟨false,1,8,[.nilf],.fn⟩:=by kernel_rfl
@[simp] theorem ti_258:tinfo Tryz.prog 258=some ⟨false,1,8,[.nilf],.fn⟩:=by kernel_rfl
@[simp] theorem ti_259:tinfo Tryz.prog 259=some ⟨false,1,8,[.nilp],.ptr⟩:=by kernel_rfl
@[simp] theorem ti_260:tinfo Tryz.prog 260=some ⟨true,2,48,[.nilsl,.nilsl],.struct [(0,49,1),(1,49,1)]⟩:=by kernel_rfl
@[simp] theorem ti_261:tinfo Tryz.prog 261=some ⟨true,2,48,[.nilsl,.nilsl],.struct [(0,49,1),(1,49,1)]⟩:=by kernel_rfl
@[simp] theorem ti_262:tinfo Tryz.prog 262=some ⟨false,1,8,[.nilf],.fn⟩:=by kernel_rfl
@[simp] theorem ti_263:tinfo Tryz.prog 263=some ⟨false,1,8,[.nilf],.fn⟩:=by kernel_rfl
@[simp] theorem ti_264:tinfo Tryz.prog 264=some ⟨false,1,8,[.nilp],.ptr⟩:=by kernel_rfl
@[simp] theorem ti_265:tinfo Tryz.prog 265=some ⟨false,1,8,[.nilf],.fn⟩:=by kernel_rfl
@[simp] theorem ti_266:tinfo Tryz.prog 266=some ⟨false,1,8,[.nilf],.fn⟩:=by kernel_rfl
@[simp] theorem ti_267:tinfo Tryz.prog 267=some ⟨false,1,8,[.nilf],.fn⟩:=by kernel_rfl
@[simp] theorem ti_268:tinfo Tryz.prog 268=some ⟨false,1,8,[.nilf],.fn⟩:=by kernel_rfl
@[simp] theorem ti_269:tinfo Tryz.prog 269=some ⟨false,1,8,[.nilf],.fn⟩:=by kernel_rfl
@[simp] theorem ti_270:tinfo Tryz.prog 270=some ⟨false,1,8,[.nilf],.fn⟩:=by kernel_rfl
@[simp] theorem ti_271:tinfo Tryz.prog 271=some ⟨false,1,8,[.nilf],.fn⟩:=by kernel_rfl
@[simp] theorem ti_272:tinfo Tryz.prog 272=some ⟨false,1,8,[.nilf],.fn⟩:=by kernel_rfl
@[simp] theorem ti_273:tinfo Tryz.prog 273=some ⟨false,1,8,[.nilp],.ptr⟩:=by kernel_rfl
@[simp] theorem ti_275:tinfo Tryz.prog 275=some ⟨false,1,8,[.nilf],.fn⟩:=by kernel_rfl
@[simp] theorem ti_276:tinfo Tryz.prog 276=some ⟨false,1,8,[.nilf],.fn⟩:=by kernel_rfl
@[simp] theorem ti_278:tinfo Tryz.prog 278=some ⟨false,1,8,[.nilf],.fn⟩:=by kernel_rfl
@[simp] theorem ti_279:tinfo Tryz.prog 279=some ⟨false,1,8,[.nilp],.ptr⟩:=by kernel_rfl
@[simp] theorem ti_280:tinfo Tryz.prog 280=some ⟨true,3,40,[.int .i64 0,.nilsl,.int .i64 0],.struct [(0,30,2),(2,3,1)]⟩:=by kernel_rfl
@[simp] theorem ti_281:tinfo Tryz.prog 281=some ⟨true,3,40,[.int .i64 0,.nilsl,.int .i64 0],.struct [(0,30,2),(2,3,1)]⟩:=by kernel_rfl
@[simp] theorem ti_282:tinfo Tryz.prog 282=some ⟨false,1,8,[.nilf],.fn⟩:=by kernel_rfl
@[simp] theorem ti_283:tinfo Tryz.prog 283=some ⟨false,1,8,[.nilf],.fn⟩:=by kernel_rfl
@[simp] theorem ti_284:tinfo Tryz.prog 284=some ⟨false,1,8,[.nilf],.fn⟩:=by kernel_rfl
@[simp] theorem ti_285:tinfo Tryz.prog 285=some ⟨true,3,40,[.int .i64 0,.int .i64 0,.nilsl],.struct [(0,3,1),(1,2,1),(2,117,1)]⟩:=by kernel_rfl
@[simp] theorem ti_286:tinfo Tryz.prog 286=some ⟨false,1,8,[.nilf],.fn⟩:=by kernel_rfl
@[simp] theorem ti_287:tinfo Tryz.prog 287=some ⟨true,2,32,[.int .i64 0,.nilsl],.struct [(0,3,1),(1,117,1)]⟩:=by kernel_rfl
@[simp] theorem ti_288:tinfo Tryz.prog 288=some ⟨false,1,8,[.nilf],.fn⟩:=by kernel_rfl
@[simp] theorem ti_289:tinfo Tryz.prog 289=some ⟨false,1,8,[.nilf],.fn⟩:=by kernel_rfl
@[simp] theorem ti_291:tinfo Tryz.prog 291=some ⟨false,1,8,[.nilf],.fn⟩:=by kernel_rfl
@[simp] theorem ti_292:tinfo Tryz.prog 292=some ⟨false,1,8,[.nilf],.fn⟩:=by kernel_rfl
@[simp] theorem ti_293:tinfo Tryz.prog 293=some ⟨false,1,8,[.nilf],.fn⟩:=by kernel_rfl
@[simp] theorem ti_294:tinfo Tryz.prog 294=some ⟨false,1,8,[.nilp],.ptr⟩:=by kernel_rfl
@[simp] theorem ti_295:tinfo Tryz.prog 295=some ⟨false,1,8,[.nilf],.fn⟩:=by kernel_rfl
@[simp] theorem ti_296:tinfo Tryz.prog 296=some ⟨false,1,8,[.nilf],.fn⟩:=by kernel_rfl
@[simp] theorem ti_297:tinfo Tryz.prog 297=some ⟨false,1,8,[.nilf],.fn⟩:=by kernel_rfl
@[simp] theorem ti_298:tinfo Tryz.prog 298=some ⟨false,1,8,[.nilf],.fn⟩:=by kernel_rfl
@[simp] theorem ti_299:tinfo Tryz.prog 299=some ⟨false,1,8,[.nilf],.fn⟩:=by kernel_rfl
@[simp] theorem ti_300:tinfo Tryz.prog 300=some ⟨false,1,8,[.nilf],.fn⟩:=by kernel_rfl
@[simp] theorem ti_301:tinfo Tryz.prog 301=some ⟨false,1,8,[.nilf],.fn⟩:=by kernel_rfl
@[simp] theorem ti_302:tinfo Tryz.prog 302=some ⟨false,1,8,[.nilf],.fn⟩:=by kernel_rfl
@[simp] theorem ti_303:tinfo Tryz.prog 303=some ⟨false,1,8,[.nilf],.fn⟩:=by kernel_rfl
@[simp] theorem ti_304:tinfo Tryz.prog 304=some ⟨false,1,8,[.nilf],.fn⟩:=by kernel_rfl
@[simp] theorem ti_305:tinfo Tryz.prog 305=some ⟨false,1,8,[.nilf],.fn⟩:=by kernel_rfl
@[simp] theorem ti_306:tinfo Tryz.prog 306=some ⟨false,1,8,[.nilf],.fn⟩:=by kernel_rfl
@[simp] theorem ti_308:tinfo Tryz.prog 308=some ⟨false,1,8,[.nilf],.fn⟩:=by kernel_rfl
@[simp] theorem ti_309:tinfo Tryz.prog 309=some ⟨false,1,8,[.nilf],.fn⟩:=by kernel_rfl
@[simp] theorem ti_310:tinfo Tryz.prog 310=some ⟨false,1,8,[.nilf],.fn⟩:=by kernel_rfl
@[simp] theorem ti_311:tinfo Tryz.prog 311=some ⟨false,1,8,[.nilf],.fn⟩:=by kernel_rfl
@[simp] theorem ti_312:tinfo Tryz.prog 312=some ⟨false,1,8,[.nilp],.ptr⟩:=by kernel_rfl
@[simp] theorem ti_313:tinfo Tryz.prog 313=some ⟨true,2,32,[.nilsl,.int .i64 0],.struct [(0,28,1),(1,3,1)]⟩:=by kernel_rfl
@[simp] theorem ti_314:tinfo Tryz.prog 314=some ⟨true,2,32,[.nilsl,.int .i64 0],.struct [(0,28,1),(1,3,1)]⟩:=by kernel_rfl
@[simp] theorem ti_315:tinfo Tryz.prog 315=some ⟨false,1,8,[.nilf],.fn⟩:=by kernel_rfl
@[simp] theorem ti_316:tinfo Tryz.prog 316=some ⟨false,1,8,[.nilf],.fn⟩:=by kernel_rfl
@[simp] theorem ti_318:tinfo Tryz.prog 318=some ⟨false,1,8,[.nilf],.fn⟩:=by kernel_rfl
@[simp] theorem ti_319:tinfo Tryz.prog 319=some ⟨false,1,8,[.nilf],.fn⟩:=by kernel_rfl
@[simp] theorem ti_321:tinfo Tryz.prog 321=some ⟨false,1,8,[.nilf],.fn⟩:=by kernel_rfl
@[simp] theorem ti_322:tinfo Tryz.prog 322=some ⟨false,1,4,[.int .u32 0],.int .u32⟩:=by kernel_rfl
@[simp] theorem ti_324:tinfo Tryz.prog 324=some ⟨false,1,8,[.nilf],.fn⟩:=by kernel_rfl
@[simp] theorem ti_326:tinfo Tryz.prog 326=some ⟨false,1,8,[.nilf],.fn⟩:=by kernel_rfl
@[simp] theorem ti_327:tinfo Tryz.prog 327=some ⟨false,1,8,[.nilf],.fn⟩:=by kernel_rfl
@[simp] theorem ti_329:tinfo Tryz.prog 329=some ⟨false,1,8,[.nilf],.fn⟩:=by kernel_rfl
@[simp] theorem ti_330:tinfo Tryz.prog 330=some ⟨false,1,8,[.nilf],.fn⟩:=by kernel_rfl
@[simp] theorem ti_331:tinfo Tryz.prog 331=some ⟨false,1,8,[.nilf],.fn⟩:=by kernel_rfl
@[simp] theorem ti_332:tinfo Tryz.prog 332=some ⟨false,1,8,[.nilf],.fn⟩:=by kernel_rfl
@[simp] theorem ti_333:tinfo Tryz.prog 333=some ⟨false,1,8,[.nilf],.fn⟩:=by kernel_rfl
@[simp] theorem ti_335:tinfo Tryz.prog 335=some ⟨false,1,8,[.nilf],.fn⟩:=by kernel_rfl
@[simp] theorem ti_336:tinfo Tryz.prog 336=some ⟨false,1,8,[.nilf],.fn⟩:=by kernel_rfl
@[simp] theorem ti_339:tinfo Tryz.prog 339=some ⟨false,1,8,[.nilf],.fn⟩:=by kernel_rfl
@[simp] theorem ti_340:tinfo Tryz.prog 340=some ⟨false,1,8,[.nilf],.fn⟩:=by kernel_rfl
@[simp] theorem ti_341:tinfo Tryz.prog 341=some ⟨false,1,8,[.nilf],.fn⟩:=by kernel_rfl
@[simp] theorem ti_343:tinfo Tryz.prog 343=some ⟨true,2,2,[.int .u8 0,.int .u8 0],.struct [(0,5,1),(1,5,1)]⟩:=by kernel_rfl
@[simp] theorem ti_344:tinfo Tryz.prog 344=some ⟨true,2,2,[.int .u8 0,.int .u8 0],.struct [(0,5,1),(1,5,1)]⟩:=by kernel_rfl
@[simp] theorem ti_348:tinfo Tryz.prog 348=some ⟨false,1,8,[.nilf],.fn⟩:=by kernel_rfl
@[simp] theorem ti_349:tinfo Tryz.prog 349=some ⟨false,1,8,[.nilp],.ptr⟩:=by kernel_rfl
@[simp] theorem ti_350:tinfo Tryz.prog 350=some ⟨false,1,8,[.nilf],.fn⟩:=by kernel_rfl
@[simp] theorem ti_351:tinfo Tryz.prog 351=some ⟨false,1,8,[.nilf],.fn⟩:=by kernel_rfl
@[simp] theorem ti_354:tinfo Tryz.prog 354=some ⟨false,1,8,[.nilf],.fn⟩:=by kernel_rfl
@[simp] theorem ti_355:tinfo Tryz.prog 355=some ⟨false,1,8,[.nilf],.fn⟩:=by kernel_rfl
@[simp] theorem ti_356:tinfo Tryz.prog 356=some ⟨true,3,48,[.str ⟨#[]⟩,.str ⟨#[]⟩,.nili],.struct [(0,9,1),(1,9,1),(2,145,1)]⟩:=by kernel_rfl
@[simp] theorem ti_357:tinfo Tryz.prog 357=some ⟨true,3,48,[.str ⟨#[]⟩,.str ⟨#[]⟩,.nili],.struct [(0,9,1),(1,9,1),(2,145,1)]⟩:=by kernel_rfl
@[simp] theorem ti_358:tinfo Tryz.prog 358=some ⟨false,1,8,[.nilf],.fn⟩:=by kernel_rfl
@[simp] theorem ti_359:tinfo Tryz.prog 359=some ⟨false,1,8,[.nilp],.ptr⟩:=by kernel_rfl
@[simp] theorem ti_360:tinfo Tryz.prog 360=some ⟨true,1,16,[.str ⟨#[]⟩],.struct [(0,9,1)]⟩:=by kernel_rfl
@[simp] theorem ti_361:tinfo Tryz.prog 361=some ⟨true,1,16,[.str ⟨#[]⟩],.struct [(0,9,1)]⟩:=by kernel_rfl
@[simp] theorem ti_369:tinfo Tryz.prog 369=some ⟨false,1,8,[.nilf],.fn⟩:=by kernel_rfl
theorem en_3:enters Tryz.prog 3=true:=by kernel_rfl
theorem en_8:enters Tryz.prog 8=true:=by kernel_rfl
theorem en_9:enters Tryz.prog 9=true:=by kernel_rfl
theorem en_10:enters Tryz.prog 10=true:=by kernel_rfl
theorem en_11:enters Tryz.prog 11=true:=by kernel_rfl
theorem en_12:enters Tryz.prog 12=true:=by kernel_rfl
theorem en_39:enters Tryz.prog 39=true:=by kernel_rfl
theorem en_40:enters Tryz.prog 40=true:=by kernel_rfl
theorem en_41:enters Tryz.prog 41=true:=by kernel_rfl
theorem en_42:enters Tryz.prog 42=true:=by kernel_rfl
theorem en_43:enters Tryz.prog 43=true:=by kernel_rfl
theorem en_44:enters Tryz.prog 44=true:=by kernel_rfl
theorem en_45:enters Tryz.prog 45=true:=by kernel_rfl
theorem en_69:enters Tryz.prog 69=true:=by kernel_rfl
theorem en_71:enters Tryz.prog 71=true:=by kernel_rfl
theorem en_74:enters Tryz.prog 74=true:=by kernel_rfl
theorem en_77:enters Tryz.prog 77=true:=by kernel_rfl
theorem en_83:enters Tryz.prog 83=true:=by kernel_rfl
theorem en_84:enters Tryz.prog 84=true:=by kernel_rfl
theorem en_85:enters Tryz.prog 85=true:=by kernel_rfl
theorem en_90:enters Tryz.prog 90=true:=by kernel_rfl
theorem en_92:enters Tryz.prog 92=true:=by kernel_rfl
theorem en_93:enters Tryz.prog 93=true:=by kernel_rfl
theorem en_94:enters Tryz.prog 94=true:=by kernel_rfl
theorem en_95:enters Tryz.prog 95=true:=by kernel_rfl
theorem en_96:enters Tryz.prog 96=true:=by kernel_rfl
theorem en_97:enters Tryz.prog 97=true:=by kernel_rfl
theorem en_98:enters Tryz.prog 98=true:=by kernel_rfl
theorem en_99:enters Tryz.prog 99=true:=by kernel_rfl
theorem en_101:enters Tryz.prog 101=true:=by kernel_rfl
theorem en_102:enters Tryz.prog 102=true:=by kernel_rfl
theorem en_103:enters Tryz.prog 103=true:=by kernel_rfl
theorem en_105:enters Tryz.prog 105=true:=by kernel_rfl
theorem en_109:enters Tryz.prog 109=true:=by kernel_rfl
theorem en_146:enters Tryz.prog 146=true:=by kernel_rfl
theorem en_150:enters Tryz.prog 150=true:=by kernel_rfl
theorem en_151:enters Tryz.prog 151=true:=by kernel_rfl
theorem en_152:enters Tryz.prog 152=true:=by kernel_rfl
theorem en_153:enters Tryz.prog 153=true:=by kernel_rfl
theorem en_158:enters Tryz.prog 158=true:=by kernel_rfl
theorem en_168:enters Tryz.prog 168=true:=by kernel_rfl
theorem en_169:enters Tryz.prog 169=true:=by kernel_rfl
theorem en_170:enters Tryz.prog 170=true:=by kernel_rfl
theorem en_171:enters Tryz.prog 171=true:=by kernel_rfl
theorem en_172:enters Tryz.prog 172=true:=by kernel_rfl
theorem en_175:enters Tryz.prog 175=true:=by kernel_rfl
theorem en_176:enters Tryz.prog 176=true:=by kernel_rfl
theorem en_177:enters Tryz.prog 177=true:=by kernel_rfl
theorem en_181:enters Tryz.prog 181=true:=by kernel_rfl
theorem en_219:enters Tryz.prog 219=true:=by kernel_rfl
theorem en_220:enters Tryz.prog 220=true:=by kernel_rfl
theorem en_221:enters Tryz.prog 221=true:=by kernel_rfl
theorem en_222:enters Tryz.prog 222=true:=by kernel_rfl
theorem en_223:enters Tryz.prog 223=true:=by kernel_rfl
theorem en_224:enters Tryz.prog 224=true:=by kernel_rfl
theorem en_225:enters Tryz.prog 225=true:=by kernel_rfl
theorem en_226:enters Tryz.prog 226=true:=by kernel_rfl
theorem en_227:enters Tryz.prog 227=true:=by kernel_rfl
theorem en_228:enters Tryz.prog 228=true:=by kernel_rfl
theorem en_237:enters Tryz.prog 237=true:=by kernel_rfl
theorem en_238:enters Tryz.prog 238=true:=by kernel_rfl
theorem en_239:enters Tryz.prog 239=true:=by kernel_rfl
theorem en_240:enters Tryz.prog 240=true:=by kernel_rfl
theorem en_243:enters Tryz.prog 243=true:=by kernel_rfl
theorem en_244:enters Tryz.prog 244=true:=by kernel_rfl
theorem en_246:enters Tryz.prog 246=true:=by kernel_rfl
theorem en_273:enters Tryz.prog 273=true:=by kernel_rfl
theorem en_280:enters Tryz.prog 280=true:=by kernel_rfl
theorem en_281:enters Tryz.prog 281=true:=by kernel_rfl
theorem en_282:enters Tryz.prog 282=true:=by kernel_rfl
theorem en_283:enters Tryz.prog 283=true:=by kernel_rfl
theorem en_290:enters Tryz.prog 290=true:=by kernel_rfl
theorem en_291:enters Tryz.prog 291=true:=by kernel_rfl
theorem en_292:enters Tryz.prog 292=true:=by kernel_rfl
theorem en_310:enters Tryz.prog 310=true:=by kernel_rfl
end Go.Proofs.YtcgekblpbheikaaGreatDoor
