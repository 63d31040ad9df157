/- What the abstract machine asks of the types and functions of this seat: closed facts, written by a program. No condition. -/
import Derived.Test.YthafdegfjadijaaGreatChecked
import Derived.KernelRfl
import Derived.Test.YthafdegfjadijaaGreatQE2
namespace Go.Proofs.YthafdegfjadijaaGreat
@[simp] theorem ti_1:tinfo Tryz.prog 1=some ⟨false,1,8,[.nilf],.fn⟩:=by kernel_rfl
@[simp] theorem ti_2:tinfo Tryz.prog 2=some ⟨false,1,8,[.int .i64 0],.int .i64⟩:=by kernel_rfl
@[simp] theorem ti_3:tinfo Tryz.prog 3=some ⟨false,1,8,[.int .i64 0],.int .i64⟩:=by kernel_rfl
@[simp] theorem ti_4:tinfo Tryz.prog 4=some ⟨false,1,1,[.bool false],.bool⟩:=by kernel_rfl
@[simp] theorem ti_5:tinfo Tryz.prog 5=some ⟨false,1,1,[.int .u8 0],.int .u8⟩:=by kernel_rfl
@[simp] theorem ti_9:tinfo Tryz.prog 9=some ⟨false,1,16,[.str ⟨#[]⟩],.str⟩:=by kernel_rfl
@[simp] theorem ti_12:tinfo Tryz.prog 12=some ⟨false,1,8,[.int .u64 0],.int .u64⟩:=by kernel_rfl
@[simp] theorem ti_20:tinfo Tryz.prog 20=some ⟨false,1,16,[.nili],.iface⟩:=by kernel_rfl
@[simp] theorem ti_21:tinfo Tryz.prog 21=some ⟨false,1,4,[.int .i32 0],.int .i32⟩:=by kernel_rfl
@[simp] theorem ti_22:tinfo Tryz.prog 22=some ⟨false,1,24,[.nilsl],.slice 5⟩:=by kernel_rfl
@[simp] theorem ti_23:tinfo Tryz.prog 23=some ⟨false,1,8,[.nilf],.fn⟩:=by kernel_rfl
@[simp] theorem ti_24:tinfo Tryz.prog 24=some ⟨false,1,24,[.nilsl],.slice 80⟩:=by kernel_rfl
@[simp] theorem ti_25:tinfo Tryz.prog 25=some ⟨true,2,32,[.int .i64 0,.nilsl],.struct [(0,3,1),(1,24,1)]⟩:=by kernel_rfl
@[simp] theorem ti_26:tinfo Tryz.prog 26=some ⟨true,2,32,[.int .i64 0,.nilsl],.struct [(0,3,1),(1,24,1)]⟩:=by kernel_rfl
@[simp] theorem ti_27:tinfo Tryz.prog 27=some ⟨false,1,8,[.nilf],.fn⟩:=by kernel_rfl
@[simp] theorem ti_28:tinfo Tryz.prog 28=some ⟨false,1,24,[.nilsl],.slice 31⟩:=by kernel_rfl
@[simp] theorem ti_30:tinfo Tryz.prog 30=some ⟨false,1,8,[.nilf],.fn⟩:=by kernel_rfl
@[simp] theorem ti_31:tinfo Tryz.prog 31=some ⟨false,1,24,[.nilsl],.slice 3⟩:=by kernel_rfl
@[simp] theorem ti_33:tinfo Tryz.prog 33=some ⟨false,1,8,[.nilf],.fn⟩:=by kernel_rfl
@[simp] theorem ti_34:tinfo Tryz.prog 34=some ⟨false,1,8,[.nilf],.fn⟩:=by kernel_rfl
@[simp] theorem ti_35:tinfo Tryz.prog 35=some ⟨false,1,8,[.nilf],.fn⟩:=by kernel_rfl
@[simp] theorem ti_36:tinfo Tryz.prog 36=some ⟨false,1,8,[.nilf],.fn⟩:=by kernel_rfl
@[simp] theorem ti_37:tinfo Tryz.prog 37=some ⟨false,1,8,[.nilf],.fn⟩:=by kernel_rfl
@[simp] theorem ti_39:tinfo Tryz.prog 39=some ⟨false,1,8,[.nilf],.fn⟩:=by kernel_rfl
@[simp] theorem ti_41:tinfo Tryz.prog 41=some ⟨false,1,8,[.nilf],.fn⟩:=by kernel_rfl
@[simp] theorem ti_43:tinfo Tryz.prog 43=some ⟨false,1,8,[.nilf],.fn⟩:=by kernel_rfl
@[simp] theorem ti_44:tinfo Tryz.prog 44=some ⟨false,1,8,[.nilp],.ptr⟩:=by kernel_rfl
@[simp] theorem ti_45:tinfo Tryz.prog 45=some ⟨false,1,8,[.nilf],.fn⟩:=by kernel_rfl
@[simp] theorem ti_46:tinfo Tryz.prog 46=some ⟨true,5,88,[.int .i64 0,.nilsl,.nilsl,.nilsl,.int .i64 0],.struct [(0,26,2),(2,31,1),(3,31,1),(4,3,1)]⟩:=by kernel_rfl
@[simp] theorem ti_47:tinfo Tryz.prog 47=some ⟨true,5,88,[.int .i64 0,.nilsl,.nilsl,.nilsl,.int .i64 0],.struct [(0,26,2),(2,31,1),(3,31,1),(4,3,1)]⟩:=by kernel_rfl
@[simp] theorem ti_48:tinfo Tryz.prog 48=some ⟨false,1,24,[.nilsl],.slice 51⟩:=by kernel_rfl
@[simp] theorem ti_49:tinfo Tryz.prog 49=some ⟨false,1,8,[.nilf],.fn⟩:=by kernel_rfl
@[simp] theorem ti_50:tinfo Tryz.prog 50=some ⟨false,1,8,[.nilf],.fn⟩:=by kernel_rfl
@[simp] theorem ti_51:tinfo Tryz.prog 51=some ⟨false,1,24,[.nilsl],.slice 4⟩:=by kernel_rfl
@[simp] theorem ti_52:tinfo Tryz.prog 52=some ⟨false,1,8,[.nilf],.fn⟩:=by kernel_rfl
@[simp] theorem ti_53:tinfo Tryz.prog 53=some ⟨false,1,8,[.nilf],.fn⟩:=by kernel_rfl
@[simp] theorem ti_54:tinfo Tryz.prog 54=some ⟨false,1,8,[.nilf],.fn⟩:=by kernel_rfl
@[simp] theorem ti_55:tinfo Tryz.prog 55=some ⟨false,1,8,[.nilf],.fn⟩:=by kernel_rfl
@[simp] theorem ti_56:tinfo Tryz.prog 56=some ⟨false,1,8,[.nilf],.fn⟩:=by kernel_rfl
@[simp] theorem ti_57:tinfo Tryz.prog 57=some ⟨false,1,8,[.nilf],.fn⟩:=by kernel_rfl
@[simp] theorem ti_58:tinfo Tryz.prog 58=some ⟨false,1,8,[.nilf],.fn⟩:=by kernel_rfl
@[simp] theorem ti_60:tinfo Tryz.prog 60=some ⟨false,1,8,[.nilf],.fn⟩:=by kernel_rfl
@[simp] theorem ti_61:tinfo Tryz.prog 61=some ⟨false,1,8,[.nilf],.fn⟩:=by kernel_rfl
@[simp] theorem ti_62:tinfo Tryz.prog 62=some ⟨false,1,8,[.nilf],.fn⟩:=by kernel_rfl
@[simp] theorem ti_63:tinfo Tryz.prog 63=some ⟨false,1,8,[.nilf],.fn⟩:=by kernel_rfl
@[simp] theorem ti_64:tinfo Tryz.prog 64=some ⟨false,1,8,[.nilf],.fn⟩:=by kernel_rfl
@[simp] theorem ti_65:tinfo Tryz.prog 65=some ⟨false,1,8,[.nilf],.fn⟩:=by kernel_rfl
@[simp] theorem ti_66:tinfo Tryz.prog 66=some ⟨false,1,8,[.nilf],.fn⟩:=by kernel_rfl
@[simp] theorem ti_67:tinfo Tryz.prog 67=some ⟨false,1,8,[.nilf],.fn⟩:=by kernel_rfl
@[simp] theorem ti_68:tinfo Tryz.prog 68=some ⟨false,1,8,[.nilf],.fn⟩:=by kernel_rfl
@[simp] theorem ti_69:tinfo Tryz.prog 69=some ⟨false,1,8,[.nilp],.ptr⟩:=by kernel_rfl
@[simp] theorem ti_70:tinfo Tryz.prog 70=some ⟨false,1,8,[.int .u64 0],.int .u64⟩:=by kernel_rfl
@[simp] theorem ti_71:tinfo Tryz.prog 71=some ⟨true,3,40,[.nilsl,.int .i64 0,.int .u64 0],.struct [(0,22,1),(1,3,1),(2,70,1)]⟩:=by kernel_rfl
@[simp] theorem ti_72:tinfo Tryz.prog 72=some ⟨true,3,40,[.nilsl,.int .i64 0,.int .u64 0],.struct [(0,22,1),(1,3,1),(2,70,1)]⟩:=by kernel_rfl
@[simp] theorem ti_73:tinfo Tryz.prog 73=some ⟨false,1,8,[.nilf],.fn⟩:=by kernel_rfl
@[simp] theorem ti_75:tinfo Tryz.prog 75=some ⟨false,1,8,[.nilf],.fn⟩:=by kernel_rfl
@[simp] theorem ti_76:tinfo Tryz.prog 76=some ⟨false,1,8,[.nilf],.fn⟩:=by kernel_rfl
@[simp] theorem ti_77:tinfo Tryz.prog 77=some ⟨false,1,24,[.nilsl],.slice 87⟩:=by kernel_rfl
@[simp] theorem ti_78:tinfo Tryz.prog 78=some ⟨false,1,24,[.nilsl],.slice 83⟩:=by kernel_rfl
@[simp] theorem ti_79:tinfo Tryz.prog 79=some ⟨true,5,72,[.int .i64 0,.nilsl,.int .i64 0,.int .i64 0,.nilsl],.struct [(0,3,1),(1,77,1),(2,3,1),(3,3,1),(4,78,1)]⟩:=by kernel_rfl
@[simp] theorem ti_80:tinfo Tryz.prog 80=some ⟨true,5,72,[.int .i64 0,.nilsl,.int .i64 0,.int .i64 0,.nilsl],.struct [(0,3,1),(1,77,1),(2,3,1),(3,3,1),(4,78,1)]⟩:=by kernel_rfl
@[simp] theorem ti_81:tinfo Tryz.prog 81=some ⟨false,1,8,[.nilf],.fn⟩:=by kernel_rfl
@[simp] theorem ti_82:tinfo Tryz.prog 82=some ⟨true,2,32,[.int .i64 0,.nilsl],.struct [(0,3,1),(1,31,1)]⟩:=by kernel_rfl
@[simp] theorem ti_83:tinfo Tryz.prog 83=some ⟨true,2,32,[.int .i64 0,.nilsl],.struct [(0,3,1),(1,31,1)]⟩:=by kernel_rfl
@[simp] theorem ti_84:tinfo Tryz.prog 84=some ⟨false,1,8,[.nilf],.fn⟩:=by kernel_rfl
@[simp] theorem ti_85:tinfo Tryz.prog 85=some ⟨false,1,8,[.nilf],.fn⟩:=by kernel_rfl
@[simp] theorem ti_86:tinfo Tryz.prog 86=some ⟨true,3,40,[.int .i64 0,.int .i64 0,.nilsl],.struct [(0,3,1),(1,2,1),(2,31,1)]⟩:=by kernel_rfl
@[simp] theorem ti_87:tinfo Tryz.prog 87=some ⟨true,3,40,[.int .i64 0,.int .i64 0,.nilsl],.struct [(0,3,1),(1,2,1),(2,31,1)]⟩:=by kernel_rfl
@[simp] theorem ti_88:tinfo Tryz.prog 88=some ⟨false,1,8,[.nilf],.fn⟩:=by kernel_rfl
@[simp] theorem ti_89:tinfo Tryz.prog 89=some ⟨false,1,8,[.nilf],.fn⟩:=by kernel_rfl
@[simp] theorem ti_90:tinfo Tryz.prog 90=some ⟨false,1,8,[.nilf],.fn⟩:=by kernel_rfl
@[simp] theorem ti_91:tinfo Tryz.prog 91=some ⟨false,1,8,[.nilf],.fn⟩:=by kernel_rfl
@[simp] theorem ti_92:tinfo Tryz.prog 92=some ⟨false,1,8,[.nilf],.fn⟩:=by kernel_rfl
@[simp] theorem ti_93:tinfo Tryz.prog 93=some ⟨false,1,8,[.int .u64 0],.int .u64⟩:=by kernel_rfl
@[simp] theorem ti_94:tinfo Tryz.prog 94=some ⟨false,1,8,[.nilf],.fn⟩:=by kernel_rfl
@[simp] theorem ti_95:tinfo Tryz.prog 95=some ⟨false,1,8,[.nilf],.fn⟩:=by kernel_rfl
@[simp] theorem ti_96:tinfo Tryz.prog 96=some ⟨false,1,8,[.nilf],.fn⟩:=by kernel_rfl
@[simp] theorem ti_97:tinfo Tryz.prog 97=some ⟨false,1,8,[.nilf],.fn⟩:=by kernel_rfl
@[simp] theorem ti_98:tinfo Tryz.prog 98=some ⟨false,1,8,[.nilf],.fn⟩:=by kernel_rfl
@[simp] theorem ti_99:tinfo Tryz.prog 99=some ⟨false,1,8,[.nilf],.fn⟩:=by kernel_rfl
@[simp] theorem ti_100:tinfo Tryz.prog 100=some ⟨false,1,8,[.nilf],.fn⟩:=by kernel_rfl
@[simp] theorem ti_101:tinfo Tryz.prog 101=some ⟨false,1,8,[.nilf],.fn⟩:=by kernel_rfl
@[simp] theorem ti_102:tinfo Tryz.prog 102=some ⟨false,1,8,[.nilf],.fn⟩:=by kernel_rfl
@[simp] theorem ti_103:tinfo Tryz.prog 103=some ⟨false,1,8,[.int .i64 0],.int .i64⟩:=by kernel_rfl
@[simp] theorem ti_105:tinfo Tryz.prog 105=some ⟨false,1,8,[.nilf],.fn⟩:=by kernel_rfl
@[simp] theorem ti_106:tinfo Tryz.prog 106=some ⟨false,1,8,[.nilf],.fn⟩:=by kernel_rfl
@[simp] theorem ti_107:tinfo Tryz.prog 107=some ⟨false,1,8,[.nilf],.fn⟩:=by kernel_rfl
@[simp] theorem ti_108:tinfo Tryz.prog 108=some ⟨false,1,8,[.nilf],.fn⟩:=by kernel_rfl
@[simp] theorem ti_109:tinfo Tryz.prog 109=some ⟨false,1,8,[.nilf],.fn⟩:=by kernel_rfl
@[simp] theorem ti_110:tinfo Tryz.prog 110=some ⟨false,1,4,[.int .u32 0],.int .u32⟩:=by kernel_rfl
@[simp] theorem ti_111:tinfo Tryz.prog 111=some ⟨false,1,8,[.nilf],.fn⟩:=by kernel_rfl
@[simp] theorem ti_112:tinfo Tryz.prog 112=some ⟨false,1,8,[.nilf],.fn⟩:=by kernel_rfl
@[simp] theorem ti_113:tinfo Tryz.prog 113=some ⟨false,1,8,[.nilf],.fn⟩:=by kernel_rfl
@[simp] theorem ti_114:tinfo Tryz.prog 114=some ⟨false,1,8,[.nilp],.ptr⟩:=by kernel_rfl
@[simp] theorem ti_115:tinfo Tryz.prog 115=some ⟨true,3,40,[.int .i64 0,.nilsl,.int .i64 0],.struct [(0,26,2),(2,3,1)]⟩:=by kernel_rfl
@[simp] theorem ti_116:tinfo Tryz.prog 116=some ⟨true,3,40,[.int .i64 0,.nilsl,.int .i64 0],.struct [(0,26,2),(2,3,1)]⟩:=by kernel_rfl
@[simp] theorem ti_117:tinfo Tryz.prog 117=some ⟨false,1,8,[.nilf],.fn⟩:=by kernel_rfl
@[simp] theorem ti_118:tinfo Tryz.prog 118=some ⟨false,1,8,[.nilf],.fn⟩:=by kernel_rfl
@[simp] theorem ti_119:tinfo Tryz.prog 119=some ⟨false,1,8,[.nilf],.fn⟩:=by kernel_rfl
@[simp] theorem ti_120:tinfo Tryz.prog 120=some ⟨false,1,8,[.nilf],.fn⟩:=by kernel_rfl
@[simp] theorem ti_122:tinfo Tryz.prog 122=some ⟨false,1,8,[.nilf],.fn⟩:=by kernel_rfl
@[simp] theorem ti_123:tinfo Tryz.prog 123=some ⟨false,1,8,[.nilf],.fn⟩:=by kernel_rfl
@[simp] theorem ti_124:tinfo Tryz.prog 124=some ⟨false,1,8,[.nilf],.fn⟩:=by kernel_rfl
@[simp] theorem ti_125:tinfo Tryz.prog 125=some ⟨false,1,8,[.int .u64 0],.int .u64⟩:=by kernel_rfl
@[simp] theorem ti_126:tinfo Tryz.prog 126=some ⟨false,1,8,[.nilf],.fn⟩:=by kernel_rfl
@[simp] theorem ti_127:tinfo Tryz.prog 127=some ⟨false,1,8,[.nilf],.fn⟩:=by kernel_rfl
@[simp] theorem ti_128:tinfo Tryz.prog 128=some ⟨false,1,8,[.nilf],.fn⟩:=by kernel_rfl
@[simp] theorem ti_129:tinfo Tryz.prog 129=some ⟨false,1,8,[.nilp],.ptr⟩:=by kernel_rfl
@[simp] theorem ti_130:tinfo Tryz.prog 130=some ⟨false,1,8,[.nilf],.fn⟩:=by kernel_rfl
@[simp] theorem ti_131:tinfo Tryz.prog 131=some ⟨false,1,8,[.nilf],.fn⟩:=by kernel_rfl
@[simp] theorem ti_133:tinfo Tryz.prog 133=some ⟨false,1,8,[.nilf],.fn⟩:=by kernel_rfl
@[simp] theorem ti_135:tinfo Tryz.prog 135=some ⟨false,1,8,[.nilf],.fn⟩:=by kernel_rfl
@[simp] theorem ti_136:tinfo Tryz.prog 136=some ⟨false,1,8,[.nilp],.ptr⟩:=by kernel_rfl
@[simp] theorem ti_138:tinfo Tryz.prog 138=some ⟨false,1,8,[.nilf],.fn⟩:=by kernel_rfl
@[simp] theorem ti_139:tinfo Tryz.prog 139=some ⟨false,1,8,[.nilf],.fn⟩:=by kernel_rfl
@[simp] theorem ti_147:tinfo Tryz.prog 147=some ⟨false,1,8,[.nilf],.fn⟩:=by kernel_rfl
@[simp] theorem ti_148:tinfo Tryz.prog 148=some ⟨false,1,8,[.nilp],.ptr⟩:=by kernel_rfl
theorem en_4:enters Tryz.prog 4=true:=by kernel_rfl
theorem en_5:enters Tryz.prog 5=true:=by kernel_rfl
theorem en_11:enters Tryz.prog 11=true:=by kernel_rfl
theorem en_13:enters Tryz.prog 13=true:=by kernel_rfl
theorem en_14:enters Tryz.prog 14=true:=by kernel_rfl
theorem en_16:enters Tryz.prog 16=true:=by kernel_rfl
theorem en_20:enters Tryz.prog 20=true:=by kernel_rfl
theorem en_22:enters Tryz.prog 22=true:=by kernel_rfl
theorem en_23:enters Tryz.prog 23=true:=by kernel_rfl
theorem en_24:enters Tryz.prog 24=true:=by kernel_rfl
theorem en_25:enters Tryz.prog 25=true:=by kernel_rfl
theorem en_26:enters Tryz.prog 26=true:=by kernel_rfl
theorem en_27:enters Tryz.prog 27=true:=by kernel_rfl
theorem en_28:enters Tryz.prog 28=true:=by kernel_rfl
theorem en_29:enters Tryz.prog 29=true:=by kernel_rfl
theorem en_30:enters Tryz.prog 30=true:=by kernel_rfl
theorem en_31:enters Tryz.prog 31=true:=by kernel_rfl
theorem en_32:enters Tryz.prog 32=true:=by kernel_rfl
theorem en_33:enters Tryz.prog 33=true:=by kernel_rfl
theorem en_34:enters Tryz.prog 34=true:=by kernel_rfl
theorem en_35:enters Tryz.prog 35=true:=by kernel_rfl
theorem en_36:enters Tryz.prog 36=true:=by kernel_rfl
theorem en_37:enters Tryz.prog 37=true:=by kernel_rfl
theorem en_38:enters Tryz.prog 38=true:=by kernel_rfl
theorem en_39:enters Tryz.prog 39=true:=by kernel_rfl
theorem en_40:enters Tryz.prog 40=true:=by kernel_rfl
theorem en_41:enters Tryz.prog 41=true:=by kernel_rfl
theorem en_42:enters Tryz.prog 42=true:=by kernel_rfl
theorem en_44:enters Tryz.prog 44=true:=by kernel_rfl
theorem en_45:enters Tryz.prog 45=true:=by kernel_rfl
theorem en_46:enters Tryz.prog 46=true:=by kernel_rfl
theorem en_47:enters Tryz.prog 47=true:=by kernel_rfl
theorem en_48:enters Tryz.prog 48=true:=by kernel_rfl
theorem en_49:enters Tryz.prog 49=true:=by kernel_rfl
theorem en_51:enters Tryz.prog 51=true:=by kernel_rfl
theorem en_52:enters Tryz.prog 52=true:=by kernel_rfl
theorem en_53:enters Tryz.prog 53=true:=by kernel_rfl
theorem en_54:enters Tryz.prog 54=true:=by kernel_rfl
theorem en_55:enters Tryz.prog 55=true:=by kernel_rfl
theorem en_56:enters Tryz.prog 56=true:=by kernel_rfl
theorem en_57:enters Tryz.prog 57=true:=by kernel_rfl
theorem en_58:enters Tryz.prog 58=true:=by kernel_rfl
theorem en_59:enters Tryz.prog 59=true:=by kernel_rfl
theorem en_60:enters Tryz.prog 60=true:=by kernel_rfl
theorem en_61:enters Tryz.prog 61=true:=by kernel_rfl
theorem en_62:enters Tryz.prog 62=true:=by kernel_rfl
theorem en_63:enters Tryz.prog 63=true:=by kernel_rfl
theorem en_64:enters Tryz.prog 64=true:=by kernel_rfl
theorem en_65:enters Tryz.prog 65=true:=by kernel_rfl
theorem en_66:enters Tryz.prog 66=true:=by kernel_rfl
theorem en_67:enters Tryz.prog 67=true:=by kernel_rfl
theorem en_68:enters Tryz.prog 68=true:=by kernel_rfl
theorem en_69:enters Tryz.prog 69=true:=by kernel_rfl
theorem en_70:enters Tryz.prog 70=true:=by kernel_rfl
theorem en_71:enters Tryz.prog 71=true:=by kernel_rfl
theorem en_72:enters Tryz.prog 72=true:=by kernel_rfl
theorem en_73:enters Tryz.prog 73=true:=by kernel_rfl
theorem en_74:enters Tryz.prog 74=true:=by kernel_rfl
theorem en_75:enters Tryz.prog 75=true:=by kernel_rfl
theorem en_76:enters Tryz.prog 76=true:=by kernel_rfl
theorem en_77:enters Tryz.prog 77=true:=by kernel_rfl
theorem en_78:enters Tryz.prog 78=true:=by kernel_rfl
theorem en_79:enters Tryz.prog 79=true:=by kernel_rfl
theorem en_80:enters Tryz.prog 80=true:=by kernel_rfl
theorem en_81:enters Tryz.prog 81=true:=by kernel_rfl
theorem en_82:enters Tryz.prog 82=true:=by kernel_rfl
theorem en_83:enters Tryz.prog 83=true:=by kernel_rfl
theorem en_84:enters Tryz.prog 84=true:=by kernel_rfl
theorem en_85:enters Tryz.prog 85=true:=by kernel_rfl
theorem en_86:enters Tryz.prog 86=true:=by kernel_rfl
theorem en_87:enters Tryz.prog 87=true:=by kernel_rfl
theorem en_88:enters Tryz.prog 88=true:=by kernel_rfl
theorem en_89:enters Tryz.prog 89=true:=by kernel_rfl
theorem en_90:enters Tryz.prog 90=true:=by kernel_rfl
theorem en_91:enters Tryz.prog 91=true:=by kernel_rfl
theorem en_97:enters Tryz.prog 97=true:=by kernel_rfl
theorem en_101:enters Tryz.prog 101=true:=by kernel_rfl
theorem en_102:enters Tryz.prog 102=true:=by kernel_rfl
theorem en_103:enters Tryz.prog 103=true:=by kernel_rfl
theorem en_104:enters Tryz.prog 104=true:=by kernel_rfl
theorem en_105:enters Tryz.prog 105=true:=by kernel_rfl
theorem en_106:enters Tryz.prog 106=true:=by kernel_rfl
theorem en_107:enters Tryz.prog 107=true:=by kernel_rfl
theorem en_108:enters Tryz.prog 108=true:=by kernel_rfl
theorem en_109:enters Tryz.prog 109=true:=by kernel_rfl
theorem en_110:enters Tryz.prog 110=true:=by kernel_rfl
theorem en_111:enters Tryz.prog 111=true:=by kernel_rfl
theorem en_112:enters Tryz.prog 112=true:=by kernel_rfl
theorem en_118:enters Tryz.prog 118=true:=by kernel_rfl
theorem en_119:enters Tryz.prog 119=true:=by kernel_rfl
theorem en_120:enters Tryz.prog 120=true:=by kernel_rfl
theorem en_122:enters Tryz.prog 122=true:=by kernel_rfl
theorem en_123:enters Tryz.prog 123=true:=by kernel_rfl
theorem en_124:enters Tryz.prog 124=true:=by kernel_rfl
end Go.Proofs.YthafdegfjadijaaGreat
