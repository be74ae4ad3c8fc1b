-- Written by a program of this session that drives the kit's print.py.
import Derived.Test.YtgkhpecllhiidaaDoorQx4a
import Derived.Test.YtgkhpecllhiidaaDoorQx4b
import Derived.Test.YtgkhpecllhiidaaDoorQx4c
