/- What the abstract machine asks of the types and functions of this seat: closed facts, written by a program. No condition. -/
import Derived.Test.YtnomiclfiijniaaChecked
import Derived.KernelRfl
import Derived.Test.YtnomiclfiijniaaQE2
namespace Go.Proofs.Ytnomiclfiijniaa
@[simp] theorem ti_1:tinfo Try.prog 1=some ⟨false,1,8,[.nilf],.fn⟩:=by kernel_rfl
@[simp] theorem ti_2:tinfo Try.prog 2=some ⟨false,1,8,[.int .i64 0],.int .i64⟩:=by kernel_rfl
@[simp] theorem ti_3:tinfo Try.prog 3=some ⟨false,1,8,[.int .i64 0],.int .i64⟩:=by kernel_rfl
@[simp] theorem ti_4:tinfo Try.prog 4=some ⟨false,1,1,[.bool false],.bool⟩:=by kernel_rfl
@[simp] theorem ti_5:tinfo Try.prog 5=some ⟨false,1,1,[.int .u8 0],.int .u8⟩:=by kernel_rfl
@[simp] theorem ti_9:tinfo Try.prog 9=some ⟨false,1,16,[.str ⟨#[]⟩],.str⟩:=by kernel_rfl
@[simp] theorem ti_12:tinfo Try.prog 12=some ⟨false,1,8,[.int .u64 0],.int .u64⟩:=by kernel_rfl
@[simp] theorem ti_20:tinfo Try.prog 20=some ⟨false,1,16,[.nili],.iface⟩:=by kernel_rfl
@[simp] theorem ti_21:tinfo Try.prog 21=some ⟨false,1,4,[.int .i32 0],.int .i32⟩:=by kernel_rfl
@[simp] theorem ti_22:tinfo Try.prog 22=some ⟨false,1,24,[.nilsl],.slice 5⟩:=by kernel_rfl
@[simp] theorem ti_23:tinfo Try.prog 23=some ⟨false,1,8,[.nilf],.fn⟩:=by kernel_rfl
@[simp] theorem ti_24:tinfo Try.prog 24=some ⟨false,1,24,[.nilsl],.slice 39⟩:=by kernel_rfl
@[simp] theorem ti_25:tinfo Try.prog 25=some ⟨true,2,32,[.int .i64 0,.nilsl],.struct [(0,3,1),(1,24,1)]⟩:=by kernel_rfl
@[simp] theorem ti_26:tinfo Try.prog 26=some ⟨true,2,32,[.int .i64 0,.nilsl],.struct [(0,3,1),(1,24,1)]⟩:=by kernel_rfl
@[simp] theorem ti_28:tinfo Try.prog 28=some ⟨false,1,8,[.nilf],.fn⟩:=by kernel_rfl
@[simp] theorem ti_29:tinfo Try.prog 29=some ⟨false,1,24,[.nilsl],.slice 3⟩:=by kernel_rfl
@[simp] theorem ti_31:tinfo Try.prog 31=some ⟨false,1,8,[.nilf],.fn⟩:=by kernel_rfl
@[simp] theorem ti_32:tinfo Try.prog 32=some ⟨false,1,8,[.nilf],.fn⟩:=by kernel_rfl
@[simp] theorem ti_34:tinfo Try.prog 34=some ⟨false,1,8,[.nilf],.fn⟩:=by kernel_rfl
@[simp] theorem ti_35:tinfo Try.prog 35=some ⟨false,1,8,[.nilf],.fn⟩:=by kernel_rfl
@[simp] theorem ti_36:tinfo Try.prog 36=some ⟨false,1,24,[.nilsl],.slice 75⟩:=by kernel_rfl
@[simp] theorem ti_37:tinfo Try.prog 37=some ⟨false,1,24,[.nilsl],.slice 130⟩:=by kernel_rfl
@[simp] theorem ti_38:tinfo Try.prog 38=some ⟨true,5,72,[.int .i64 0,.nilsl,.int .i64 0,.int .i64 0,.nilsl],.struct [(0,3,1),(1,36,1),(2,3,1),(3,3,1),(4,37,1)]⟩:=by kernel_rfl
@[simp] theorem ti_39:tinfo Try.prog 39=some ⟨true,5,72,[.int .i64 0,.nilsl,.int .i64 0,.int .i64 0,.nilsl],.struct [(0,3,1),(1,36,1),(2,3,1),(3,3,1),(4,37,1)]⟩:=by kernel_rfl
@[simp] theorem ti_40:tinfo Try.prog 40=some ⟨false,1,24,[.nilsl],.slice 2⟩:=by kernel_rfl
@[simp] theorem ti_42:tinfo Try.prog 42=some ⟨false,1,8,[.nilf],.fn⟩:=by kernel_rfl
@[simp] theorem ti_43:tinfo Try.prog 43=some ⟨true,4,48,[.int .i64 0,.int .i64 0,.nilsl,.int .i64 0],.struct [(0,3,1),(1,2,1),(2,40,1),(3,3,1)]⟩:=by kernel_rfl
@[simp] theorem ti_44:tinfo Try.prog 44=some ⟨true,4,48,[.int .i64 0,.int .i64 0,.nilsl,.int .i64 0],.struct [(0,3,1),(1,2,1),(2,40,1),(3,3,1)]⟩:=by kernel_rfl
@[simp] theorem ti_46:tinfo Try.prog 46=some ⟨false,1,8,[.nilf],.fn⟩:=by kernel_rfl
@[simp] theorem ti_47:tinfo Try.prog 47=some ⟨false,1,8,[.nilf],.fn⟩:=by kernel_rfl
@[simp] theorem ti_48:tinfo Try.prog 48=some ⟨false,1,8,[.nilf],.fn⟩:=by kernel_rfl
@[simp] theorem ti_50:tinfo Try.prog 50=some ⟨false,1,8,[.nilf],.fn⟩:=by kernel_rfl
@[simp] theorem ti_52:tinfo Try.prog 52=some ⟨false,1,8,[.nilf],.fn⟩:=by kernel_rfl
@[simp] theorem ti_53:tinfo Try.prog 53=some ⟨false,1,8,[.nilf],.fn⟩:=by kernel_rfl
@[simp] theorem ti_55:tinfo Try.prog 55=some ⟨false,1,8,[.nilf],.fn⟩:=by kernel_rfl
@[simp] theorem ti_56:tinfo Try.prog 56=some ⟨false,1,8,[.nilf],.fn⟩:=by kernel_rfl
@[simp] theorem ti_57:tinfo Try.prog 57=some ⟨false,1,8,[.nilf],.fn⟩:=by kernel_rfl
@[simp] theorem ti_59:tinfo Try.prog 59=some ⟨false,1,8,[.nilf],.fn⟩:=by kernel_rfl
@[simp] theorem ti_60:tinfo Try.prog 60=some ⟨false,1,8,[.nilp],.ptr⟩:=by kernel_rfl
@[simp] theorem ti_61:tinfo Try.prog 61=some ⟨false,1,8,[.int .u64 0],.int .u64⟩:=by kernel_rfl
@[simp] theorem ti_62:tinfo Try.prog 62=some ⟨true,3,40,[.nilsl,.int .i64 0,.int .u64 0],.struct [(0,22,1),(1,3,1),(2,61,1)]⟩:=by kernel_rfl
@[simp] theorem ti_63:tinfo Try.prog 63=some ⟨true,3,40,[.nilsl,.int .i64 0,.int .u64 0],.struct [(0,22,1),(1,3,1),(2,61,1)]⟩:=by kernel_rfl
@[simp] theorem ti_64:tinfo Try.prog 64=some ⟨false,1,8,[.nilf],.fn⟩:=by kernel_rfl
@[simp] theorem ti_65:tinfo Try.prog 65=some ⟨false,1,8,[.nilf],.fn⟩:=by kernel_rfl
@[simp] theorem ti_66:tinfo Try.prog 66=some ⟨false,1,8,[.nilf],.fn⟩:=by kernel_rfl
@[simp] theorem ti_67:tinfo Try.prog 67=some ⟨false,1,8,[.nilp],.ptr⟩:=by kernel_rfl
@[simp] theorem ti_68:tinfo Try.prog 68=some ⟨false,1,8,[.nilf],.fn⟩:=by kernel_rfl
@[simp] theorem ti_69:tinfo Try.prog 69=some ⟨false,1,8,[.nilf],.fn⟩:=by kernel_rfl
@[simp] theorem ti_70:tinfo Try.prog 70=some ⟨false,1,8,[.nilp],.ptr⟩:=by kernel_rfl
@[simp] theorem ti_72:tinfo Try.prog 72=some ⟨false,1,8,[.nilf],.fn⟩:=by kernel_rfl
@[simp] theorem ti_73:tinfo Try.prog 73=some ⟨false,1,8,[.nilf],.fn⟩:=by kernel_rfl
@[simp] theorem ti_74:tinfo Try.prog 74=some ⟨true,3,40,[.int .i64 0,.int .i64 0,.nilsl],.struct [(0,3,1),(1,2,1),(2,29,1)]⟩:=by kernel_rfl
@[simp] theorem ti_75:tinfo Try.prog 75=some ⟨true,3,40,[.int .i64 0,.int .i64 0,.nilsl],.struct [(0,3,1),(1,2,1),(2,29,1)]⟩:=by kernel_rfl
@[simp] theorem ti_76:tinfo Try.prog 76=some ⟨false,1,8,[.nilf],.fn⟩:=by kernel_rfl
@[simp] theorem ti_78:tinfo Try.prog 78=some ⟨false,1,8,[.nilf],.fn⟩:=by kernel_rfl
@[simp] theorem ti_79:tinfo Try.prog 79=some ⟨true,5,88,[.int .i64 0,.nilsl,.nilsl,.nilsl,.int .i64 0],.struct [(0,26,2),(2,29,1),(3,29,1),(4,3,1)]⟩:=by kernel_rfl
@[simp] theorem ti_80:tinfo Try.prog 80=some ⟨true,5,88,[.int .i64 0,.nilsl,.nilsl,.nilsl,.int .i64 0],.struct [(0,26,2),(2,29,1),(3,29,1),(4,3,1)]⟩:=by kernel_rfl
@[simp] theorem ti_81:tinfo Try.prog 81=some ⟨false,1,8,[.nilf],.fn⟩:=by kernel_rfl
@[simp] theorem ti_82:tinfo Try.prog 82=some ⟨false,1,8,[.nilf],.fn⟩:=by kernel_rfl
@[simp] theorem ti_83:tinfo Try.prog 83=some ⟨false,1,8,[.nilf],.fn⟩:=by kernel_rfl
@[simp] theorem ti_84:tinfo Try.prog 84=some ⟨false,1,8,[.nilf],.fn⟩:=by kernel_rfl
@[simp] theorem ti_85:tinfo Try.prog 85=some ⟨false,1,8,[.nilf],.fn⟩:=by kernel_rfl
@[simp] theorem ti_86:tinfo Try.prog 86=some ⟨true,6,80,[.nilp,.nilsl,.int .i64 0,.int .i64 0,.nilsl,.int .i64 0],.struct [(0,67,1),(1,40,1),(2,44,4)]⟩:=by kernel_rfl
@[simp] theorem ti_87:tinfo Try.prog 87=some ⟨true,6,80,[.nilp,.nilsl,.int .i64 0,.int .i64 0,.nilsl,.int .i64 0],.struct [(0,67,1),(1,40,1),(2,44,4)]⟩:=by kernel_rfl
@[simp] theorem ti_88:tinfo Try.prog 88=some ⟨false,1,8,[.nilf],.fn⟩:=by kernel_rfl
@[simp] theorem ti_89:tinfo Try.prog 89=some ⟨false,1,8,[.nilf],.fn⟩:=by kernel_rfl
@[simp] theorem ti_90:tinfo Try.prog 90=some ⟨false,1,8,[.nilf],.fn⟩:=by kernel_rfl
@[simp] theorem ti_91:tinfo Try.prog 91=some ⟨false,1,8,[.nilf],.fn⟩:=by kernel_rfl
@[simp] theorem ti_92:tinfo Try.prog 92=some ⟨false,1,8,[.nilf],.fn⟩:=by kernel_rfl
@[simp] theorem ti_93:tinfo Try.prog 93=some ⟨false,1,8,[.nilf],.fn⟩:=by kernel_rfl
@[simp] theorem ti_94:tinfo Try.prog 94=some ⟨false,1,8,[.nilf],.fn⟩:=by kernel_rfl
@[simp] theorem ti_95:tinfo Try.prog 95=some ⟨true,4,32,[.int .i64 0,.int .i64 0,.int .i64 0,.int .i64 0],.struct [(0,3,1),(1,3,1),(2,3,1),(3,3,1)]⟩:=by kernel_rfl
@[simp] theorem ti_96:tinfo Try.prog 96=some ⟨true,4,32,[.int .i64 0,.int .i64 0,.int .i64 0,.int .i64 0],.struct [(0,3,1),(1,3,1),(2,3,1),(3,3,1)]⟩:=by kernel_rfl
@[simp] theorem ti_97:tinfo Try.prog 97=some ⟨false,1,8,[.nilp],.ptr⟩:=by kernel_rfl
@[simp] theorem ti_98:tinfo Try.prog 98=some ⟨false,1,8,[.nilf],.fn⟩:=by kernel_rfl
@[simp] theorem ti_99:tinfo Try.prog 99=some ⟨false,1,8,[.nilf],.fn⟩:=by kernel_rfl
@[simp] theorem ti_100:tinfo Try.prog 100=some ⟨false,1,8,[.nilf],.fn⟩:=by kernel_rfl
@[simp] theorem ti_101:tinfo Try.prog 101=some ⟨false,1,8,[.nilf],.fn⟩:=by kernel_rfl
@[simp] theorem ti_102:tinfo Try.prog 102=some ⟨false,1,24,[.nilsl],.slice 4⟩:=by kernel_rfl
@[simp] theorem ti_103:tinfo Try.prog 103=some ⟨false,1,8,[.nilf],.fn⟩:=by kernel_rfl
@[simp] theorem ti_104:tinfo Try.prog 104=some ⟨false,1,24,[.nilsl],.slice 29⟩:=by kernel_rfl
@[simp] theorem ti_105:tinfo Try.prog 105=some ⟨false,1,8,[.nilf],.fn⟩:=by kernel_rfl
@[simp] theorem ti_106:tinfo Try.prog 106=some ⟨false,1,24,[.nilsl],.slice 102⟩:=by kernel_rfl
@[simp] theorem ti_107:tinfo Try.prog 107=some ⟨false,1,8,[.nilp],.ptr⟩:=by kernel_rfl
@[simp] theorem ti_108:tinfo Try.prog 108=some ⟨false,1,8,[.nilf],.fn⟩:=by kernel_rfl
@[simp] theorem ti_109:tinfo Try.prog 109=some ⟨false,1,8,[.nilp],.ptr⟩:=by kernel_rfl
@[simp] theorem ti_110:tinfo Try.prog 110=some ⟨false,1,8,[.nilf],.fn⟩:=by kernel_rfl
@[simp] theorem ti_111:tinfo Try.prog 111=some ⟨true,3,56,[.nilp,.nilsl,.nilsl],.struct [(0,67,1),(1,102,1),(2,106,1)]⟩:=by kernel_rfl
@[simp] theorem ti_112:tinfo Try.prog 112=some ⟨true,3,56,[.nilp,.nilsl,.nilsl],.struct [(0,67,1),(1,102,1),(2,106,1)]⟩:=by kernel_rfl
@[simp] theorem ti_113:tinfo Try.prog 113=some ⟨false,1,8,[.nilf],.fn⟩:=by kernel_rfl
@[simp] theorem ti_114:tinfo Try.prog 114=some ⟨false,1,8,[.nilf],.fn⟩:=by kernel_rfl
@[simp] theorem ti_115:tinfo Try.prog 115=some ⟨false,1,8,[.nilf],.fn⟩:=by kernel_rfl
@[simp] theorem ti_116:tinfo Try.prog 116=some ⟨false,1,8,[.nilf],.fn⟩:=by kernel_rfl
@[simp] theorem ti_117:tinfo Try.prog 117=some ⟨false,1,8,[.nilf],.fn⟩:=by kernel_rfl
@[simp] theorem ti_118:tinfo Try.prog 118=some ⟨false,1,8,[.nilf],.fn⟩:=by kernel_rfl
@[simp] theorem ti_120:tinfo Try.prog 120=some ⟨false,1,8,[.nilf],.fn⟩:=by kernel_rfl
@[simp] theorem ti_121:tinfo Try.prog 121=some ⟨false,1,8,[.nilf],.fn⟩:=by kernel_rfl
@[simp] theorem ti_122:tinfo Try.prog 122=some ⟨false,1,8,[.nilf],.fn⟩:=by kernel_rfl
@[simp] theorem ti_123:tinfo Try.prog 123=some ⟨false,1,8,[.nilf],.fn⟩:=by kernel_rfl
@[simp] theorem ti_124:tinfo Try.prog 124=some ⟨false,1,8,[.nilf],.fn⟩:=by kernel_rfl
@[simp] theorem ti_125:tinfo Try.prog 125=some ⟨false,1,8,[.nilp],.ptr⟩:=by kernel_rfl
@[simp] theorem ti_127:tinfo Try.prog 127=some ⟨false,1,8,[.nilf],.fn⟩:=by kernel_rfl
@[simp] theorem ti_128:tinfo Try.prog 128=some ⟨false,1,8,[.nilf],.fn⟩:=by kernel_rfl
@[simp] theorem ti_129:tinfo Try.prog 129=some ⟨true,2,32,[.int .i64 0,.nilsl],.struct [(0,3,1),(1,29,1)]⟩:=by kernel_rfl
@[simp] theorem ti_130:tinfo Try.prog 130=some ⟨true,2,32,[.int .i64 0,.nilsl],.struct [(0,3,1),(1,29,1)]⟩:=by kernel_rfl
@[simp] theorem ti_131:tinfo Try.prog 131=some ⟨false,1,8,[.nilf],.fn⟩:=by kernel_rfl
@[simp] theorem ti_132:tinfo Try.prog 132=some ⟨false,1,8,[.nilp],.ptr⟩:=by kernel_rfl
@[simp] theorem ti_133:tinfo Try.prog 133=some ⟨true,2,48,[.nilsl,.nilsl],.struct [(0,40,1),(1,40,1)]⟩:=by kernel_rfl
@[simp] theorem ti_134:tinfo Try.prog 134=some ⟨true,2,48,[.nilsl,.nilsl],.struct [(0,40,1),(1,40,1)]⟩:=by kernel_rfl
@[simp] theorem ti_135:tinfo Try.prog 135=some ⟨false,1,8,[.nilf],.fn⟩:=by kernel_rfl
@[simp] theorem ti_136:tinfo Try.prog 136=some ⟨false,1,8,[.nilf],.fn⟩:=by kernel_rfl
@[simp] theorem ti_137:tinfo Try.prog 137=some ⟨false,1,8,[.nilf],.fn⟩:=by kernel_rfl
@[simp] theorem ti_138:tinfo Try.prog 138=some ⟨false,1,8,[.nilf],.fn⟩:=by kernel_rfl
@[simp] theorem ti_139:tinfo Try.prog 139=some ⟨false,1,8,[.nilp],.ptr⟩:=by kernel_rfl
@[simp] theorem ti_140:tinfo Try.prog 140=some ⟨true,3,40,[.int .i64 0,.nilsl,.int .i64 0],.struct [(0,26,2),(2,3,1)]⟩:=by kernel_rfl
@[simp] theorem ti_141:tinfo Try.prog 141=some ⟨true,3,40,[.int .i64 0,.nilsl,.int .i64 0],.struct [(0,26,2),(2,3,1)]⟩:=by kernel_rfl
@[simp] theorem ti_142:tinfo Try.prog 142=some ⟨false,1,8,[.nilf],.fn⟩:=by kernel_rfl
@[simp] theorem ti_143:tinfo Try.prog 143=some ⟨false,1,8,[.nilf],.fn⟩:=by kernel_rfl
@[simp] theorem ti_144:tinfo Try.prog 144=some ⟨false,1,8,[.nilf],.fn⟩:=by kernel_rfl
@[simp] theorem ti_145:tinfo Try.prog 145=some ⟨false,1,8,[.int .u64 0],.int .u64⟩:=by kernel_rfl
@[simp] theorem ti_146:tinfo Try.prog 146=some ⟨false,1,8,[.nilf],.fn⟩:=by kernel_rfl
@[simp] theorem ti_147:tinfo Try.prog 147=some ⟨false,1,8,[.nilf],.fn⟩:=by kernel_rfl
@[simp] theorem ti_148:tinfo Try.prog 148=some ⟨false,1,8,[.nilf],.fn⟩:=by kernel_rfl
@[simp] theorem ti_149:tinfo Try.prog 149=some ⟨false,1,8,[.nilf],.fn⟩:=by kernel_rfl
@[simp] theorem ti_150:tinfo Try.prog 150=some ⟨false,1,8,[.nilf],.fn⟩:=by kernel_rfl
@[simp] theorem ti_151:tinfo Try.prog 151=some ⟨false,1,8,[.nilf],.fn⟩:=by kernel_rfl
@[simp] theorem ti_152:tinfo Try.prog 152=some ⟨false,1,8,[.nilf],.fn⟩:=by kernel_rfl
@[simp] theorem ti_154:tinfo Try.prog 154=some ⟨false,1,8,[.nilf],.fn⟩:=by kernel_rfl
@[simp] theorem ti_155:tinfo Try.prog 155=some ⟨false,1,8,[.nilf],.fn⟩:=by kernel_rfl
@[simp] theorem ti_156:tinfo Try.prog 156=some ⟨false,1,8,[.nilf],.fn⟩:=by kernel_rfl
@[simp] theorem ti_157:tinfo Try.prog 157=some ⟨false,1,8,[.nilf],.fn⟩:=by kernel_rfl
@[simp] theorem ti_158:tinfo Try.prog 158=some ⟨false,1,8,[.nilf],.fn⟩:=by kernel_rfl
@[simp] theorem ti_159:tinfo Try.prog 159=some ⟨false,1,4,[.int .u32 0],.int .u32⟩:=by kernel_rfl
@[simp] theorem ti_161:tinfo Try.prog 161=some ⟨false,1,8,[.nilf],.fn⟩:=by kernel_rfl
@[simp] theorem ti_163:tinfo Try.prog 163=some ⟨false,1,8,[.nilf],.fn⟩:=by kernel_rfl
@[simp] theorem ti_164:tinfo Try.prog 164=some ⟨false,1,8,[.nilf],.fn⟩:=by kernel_rfl
@[simp] theorem ti_172:tinfo Try.prog 172=some ⟨false,1,8,[.nilf],.fn⟩:=by kernel_rfl
@[simp] theorem ti_173:tinfo Try.prog 173=some ⟨false,1,8,[.nilp],.ptr⟩:=by kernel_rfl
@[simp] theorem ti_178:tinfo Try.prog 178=some ⟨false,1,8,[.nilf],.fn⟩:=by kernel_rfl
theorem en_5:enters Try.prog 5=true:=by kernel_rfl
theorem en_6:enters Try.prog 6=true:=by kernel_rfl
theorem en_10:enters Try.prog 10=true:=by kernel_rfl
theorem en_23:enters Try.prog 23=true:=by kernel_rfl
theorem en_27:enters Try.prog 27=true:=by kernel_rfl
theorem en_28:enters Try.prog 28=true:=by kernel_rfl
theorem en_29:enters Try.prog 29=true:=by kernel_rfl
theorem en_30:enters Try.prog 30=true:=by kernel_rfl
theorem en_31:enters Try.prog 31=true:=by kernel_rfl
theorem en_32:enters Try.prog 32=true:=by kernel_rfl
theorem en_33:enters Try.prog 33=true:=by kernel_rfl
theorem en_34:enters Try.prog 34=true:=by kernel_rfl
theorem en_35:enters Try.prog 35=true:=by kernel_rfl
theorem en_36:enters Try.prog 36=true:=by kernel_rfl
theorem en_37:enters Try.prog 37=true:=by kernel_rfl
theorem en_38:enters Try.prog 38=true:=by kernel_rfl
theorem en_39:enters Try.prog 39=true:=by kernel_rfl
theorem en_40:enters Try.prog 40=true:=by kernel_rfl
theorem en_41:enters Try.prog 41=true:=by kernel_rfl
theorem en_42:enters Try.prog 42=true:=by kernel_rfl
theorem en_44:enters Try.prog 44=true:=by kernel_rfl
theorem en_46:enters Try.prog 46=true:=by kernel_rfl
theorem en_47:enters Try.prog 47=true:=by kernel_rfl
theorem en_48:enters Try.prog 48=true:=by kernel_rfl
theorem en_53:enters Try.prog 53=true:=by kernel_rfl
theorem en_58:enters Try.prog 58=true:=by kernel_rfl
theorem en_59:enters Try.prog 59=true:=by kernel_rfl
theorem en_60:enters Try.prog 60=true:=by kernel_rfl
theorem en_63:enters Try.prog 63=true:=by kernel_rfl
theorem en_65:enters Try.prog 65=true:=by kernel_rfl
theorem en_66:enters Try.prog 66=true:=by kernel_rfl
theorem en_67:enters Try.prog 67=true:=by kernel_rfl
theorem en_68:enters Try.prog 68=true:=by kernel_rfl
theorem en_69:enters Try.prog 69=true:=by kernel_rfl
theorem en_70:enters Try.prog 70=true:=by kernel_rfl
theorem en_71:enters Try.prog 71=true:=by kernel_rfl
theorem en_72:enters Try.prog 72=true:=by kernel_rfl
theorem en_73:enters Try.prog 73=true:=by kernel_rfl
theorem en_74:enters Try.prog 74=true:=by kernel_rfl
theorem en_75:enters Try.prog 75=true:=by kernel_rfl
theorem en_76:enters Try.prog 76=true:=by kernel_rfl
theorem en_77:enters Try.prog 77=true:=by kernel_rfl
theorem en_78:enters Try.prog 78=true:=by kernel_rfl
theorem en_79:enters Try.prog 79=true:=by kernel_rfl
theorem en_80:enters Try.prog 80=true:=by kernel_rfl
theorem en_81:enters Try.prog 81=true:=by kernel_rfl
theorem en_82:enters Try.prog 82=true:=by kernel_rfl
theorem en_83:enters Try.prog 83=true:=by kernel_rfl
theorem en_84:enters Try.prog 84=true:=by kernel_rfl
theorem en_85:enters Try.prog 85=true:=by kernel_rfl
theorem en_86:enters Try.prog 86=true:=by kernel_rfl
theorem en_87:enters Try.prog 87=true:=by kernel_rfl
theorem en_88:enters Try.prog 88=true:=by kernel_rfl
theorem en_89:enters Try.prog 89=true:=by kernel_rfl
theorem en_90:enters Try.prog 90=true:=by kernel_rfl
theorem en_93:enters Try.prog 93=true:=by kernel_rfl
theorem en_95:enters Try.prog 95=true:=by kernel_rfl
theorem en_99:enters Try.prog 99=true:=by kernel_rfl
theorem en_100:enters Try.prog 100=true:=by kernel_rfl
theorem en_101:enters Try.prog 101=true:=by kernel_rfl
theorem en_102:enters Try.prog 102=true:=by kernel_rfl
theorem en_103:enters Try.prog 103=true:=by kernel_rfl
theorem en_104:enters Try.prog 104=true:=by kernel_rfl
theorem en_105:enters Try.prog 105=true:=by kernel_rfl
theorem en_106:enters Try.prog 106=true:=by kernel_rfl
theorem en_107:enters Try.prog 107=true:=by kernel_rfl
theorem en_108:enters Try.prog 108=true:=by kernel_rfl
theorem en_109:enters Try.prog 109=true:=by kernel_rfl
theorem en_110:enters Try.prog 110=true:=by kernel_rfl
theorem en_111:enters Try.prog 111=true:=by kernel_rfl
theorem en_112:enters Try.prog 112=true:=by kernel_rfl
theorem en_113:enters Try.prog 113=true:=by kernel_rfl
theorem en_114:enters Try.prog 114=true:=by kernel_rfl
theorem en_115:enters Try.prog 115=true:=by kernel_rfl
theorem en_116:enters Try.prog 116=true:=by kernel_rfl
theorem en_117:enters Try.prog 117=true:=by kernel_rfl
theorem en_118:enters Try.prog 118=true:=by kernel_rfl
theorem en_119:enters Try.prog 119=true:=by kernel_rfl
theorem en_120:enters Try.prog 120=true:=by kernel_rfl
theorem en_123:enters Try.prog 123=true:=by kernel_rfl
theorem en_124:enters Try.prog 124=true:=by kernel_rfl
theorem en_125:enters Try.prog 125=true:=by kernel_rfl
theorem en_126:enters Try.prog 126=true:=by kernel_rfl
theorem en_131:enters Try.prog 131=true:=by kernel_rfl
theorem en_132:enters Try.prog 132=true:=by kernel_rfl
theorem en_133:enters Try.prog 133=true:=by kernel_rfl
end Go.Proofs.Ytnomiclfiijniaa
