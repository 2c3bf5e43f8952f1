/- Lemmas for the statements of this seat: an abstract machine that the model follows, and contracts of functions. Conditions: none. -/
import Derived.Test.YtjchifhnckdnaaaGreatDoorM44Sn00
import Derived.Test.YtjchifhnckdnaaaGreatDoorM44Sn01
import Derived.Test.YtjchifhnckdnaaaGreatDoorM44Sn02
import Derived.Test.YtjchifhnckdnaaaGreatDoorM44Sn03
import Derived.Test.YtjchifhnckdnaaaGreatDoorM44Sn04
import Derived.Test.YtjchifhnckdnaaaGreatDoorM44Sn05
import Derived.Test.YtjchifhnckdnaaaGreatDoorM44Sn06
import Derived.Test.YtjchifhnckdnaaaGreatDoorM44Sn07
import Derived.Test.YtjchifhnckdnaaaGreatDoorM44Sn08
import Derived.Test.YtjchifhnckdnaaaGreatDoorM44Sn09
import Derived.Test.YtjchifhnckdnaaaGreatDoorM44Sn10
import Derived.Test.YtjchifhnckdnaaaGreatDoorM44Sn11
import Derived.Test.YtjchifhnckdnaaaGreatDoorM44Sn12
import Derived.Test.YtjchifhnckdnaaaGreatDoorM44Sn13
import Derived.Test.YtjchifhnckdnaaaGreatDoorM44Sn14
import Derived.Test.YtjchifhnckdnaaaGreatDoorM44Sn15
import Derived.Test.YtjchifhnckdnaaaGreatDoorM44Sn16
import Derived.Test.YtjchifhnckdnaaaGreatDoorM44Sn17
import Derived.Test.YtjchifhnckdnaaaGreatDoorM44Sn18
import Derived.Test.YtjchifhnckdnaaaGreatDoorM44Sn19
import Derived.Test.YtjchifhnckdnaaaGreatDoorM44SnF
set_option linter.unusedVariables false
set_option linter.unusedSimpArgs false
set_option linter.unusedSectionVars false
namespace Go.Aev.M44
set_option maxRecDepth 1000000
theorem t0:TOks T0:=tnil
theorem t1:TOks T1:=tcons e0 t0
theorem t2:TOks T2:=tcons e1 t1
theorem t3:TOks T3:=tcons e2 t2
theorem t4:TOks T4:=tcons e3 t3
theorem t5:TOks T5:=tcons e4 t4
theorem t6:TOks T6:=tcons e5 t5
theorem t7:TOks T7:=tcons e6 t6
theorem t8:TOks T8:=tcons e7 t7
theorem t9:TOks T9:=tcons e8 t8
theorem t10:TOks T10:=tcons e9 t9
theorem t11:TOks T11:=tcons e10 t10
theorem t12:TOks T12:=tcons e11 t11
theorem t13:TOks T13:=tcons e12 t12
theorem t14:TOks T14:=tcons e13 t13
theorem t15:TOks T15:=tcons e14 t14
theorem t16:TOks T16:=tcons e15 t15
theorem t17:TOks T17:=tcons e16 t16
theorem t18:TOks T18:=tcons e17 t17
theorem t19:TOks T19:=tcons e18 t18
theorem t20:TOks T20:=tcons e19 t19
theorem t21:TOks T21:=tcons e20 t20
theorem t22:TOks T22:=tcons e21 t21
theorem t23:TOks T23:=tcons e22 t22
theorem t24:TOks T24:=tcons e23 t23
theorem t25:TOks T25:=tcons e24 t24
theorem t26:TOks T26:=tcons e25 t25
theorem t27:TOks T27:=tcons e26 t26
theorem t28:TOks T28:=tcons e27 t27
theorem t29:TOks T29:=tcons e28 t28
theorem t30:TOks T30:=tcons e29 t29
theorem t31:TOks T31:=tcons e30 t30
theorem t32:TOks T32:=tcons e31 t31
theorem t33:TOks T33:=tcons e32 t32
theorem t34:TOks T34:=tcons e33 t33
theorem t35:TOks T35:=tcons e34 t34
theorem t36:TOks T36:=tcons e35 t35
theorem t37:TOks T37:=tcons e36 t36
theorem t38:TOks T38:=tcons e37 t37
theorem t39:TOks T39:=tcons e38 t38
theorem t40:TOks T40:=tcons e39 t39
theorem t41:TOks T41:=tcons e40 t40
theorem t42:TOks T42:=tcons e41 t41
theorem t43:TOks T43:=tcons e42 t42
theorem t44:TOks T44:=tcons e43 t43
theorem t45:TOks T45:=tcons e44 t44
theorem t46:TOks T46:=tcons e45 t45
theorem t47:TOks T47:=tcons e46 t46
theorem t48:TOks T48:=tcons e47 t47
theorem t49:TOks T49:=tfork e48 t48
theorem t50:TOks T50:=tcons e49 t49
theorem t51:TOks T51:=tcons e50 t50
theorem t52:TOks T52:=tcons e51 t51
theorem t53:TOks T53:=tcons e52 t52
theorem t54:TOks T54:=tcons e53 t53
theorem t55:TOks T55:=tcons e54 t54
theorem t56:TOks T56:=tcons e55 t55
theorem t57:TOks T57:=tcons e56 t56
theorem t58:TOks T58:=tcons e57 t57
theorem t59:TOks T59:=tcons e58 t58
theorem t60:TOks T60:=tcons e59 t59
theorem t61:TOks T61:=tcons e60 t60
theorem t62:TOks T62:=tcons e61 t61
theorem t63:TOks T63:=tcons e62 t62
theorem t64:TOks T64:=tcons e63 t63
theorem t65:TOks T65:=tcons e64 t64
theorem t66:TOks T66:=tcons e65 t65
theorem t67:TOks T67:=tcons e66 t66
theorem t68:TOks T68:=tcons e67 t67
theorem t69:TOks T69:=tcons e68 t68
theorem t70:TOks T70:=tcons e69 t69
theorem t71:TOks T71:=tcons e70 t70
theorem t72:TOks T72:=tcons e71 t71
theorem t73:TOks T73:=tcons e72 t72
theorem t74:TOks T74:=tcons e73 t73
theorem t75:TOks T75:=tcons e74 t74
theorem t76:TOks T76:=tcons e75 t75
theorem t77:TOks T77:=tcons e76 t76
theorem t78:TOks T78:=tcons e77 t77
theorem t79:TOks T79:=tcons e78 t78
theorem t80:TOks T80:=tcons e79 t79
theorem t81:TOks T81:=tcons e80 t80
theorem t82:TOks T82:=tcons e81 t81
theorem t83:TOks T83:=tcons e82 t82
theorem t84:TOks T84:=tcons e83 t83
theorem t85:TOks T85:=tcons e84 t84
theorem t86:TOks T86:=tcons e85 t85
theorem t87:TOks T87:=tcons e86 t86
theorem t88:TOks T88:=tcons e87 t87
theorem t89:TOks T89:=tcons e88 t88
theorem t90:TOks T90:=tcons e89 t89
theorem t91:TOks T91:=tcons e90 t90
theorem t92:TOks T92:=tcons e91 t91
theorem t93:TOks T93:=tcons e92 t92
theorem t94:TOks T94:=tcons e93 t93
theorem t95:TOks T95:=tcons e94 t94
theorem t96:TOks T96:=tcons e95 t95
theorem t97:TOks T97:=tcons e96 t96
theorem t98:TOks T98:=tcons e97 t97
theorem t99:TOks T99:=tcons e98 t98
theorem t100:TOks T100:=tcons e99 t99
theorem t101:TOks T101:=tcons e100 t100
theorem t102:TOks T102:=tcons e101 t101
theorem t103:TOks T103:=tcons e102 t102
theorem top_run:runT ((bs T103).fcfg 12) 100000 4 [] [] = some (B true):=by kernel_rfl
theorem san_ok:RCs PP 4 [] [] (B true):=rcs_of_runT (fcfg_ok (bs_ok t103) 12) top_run
end Go.Aev.M44
